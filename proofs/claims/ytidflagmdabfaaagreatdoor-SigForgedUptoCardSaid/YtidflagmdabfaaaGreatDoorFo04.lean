/-
  The walk of bollardref17's Encode. The walk of bollardref17's Canonical. The walk of the document's Text.
-/
import Derived.Test.YtidflagmdabfaaaGreatDoorFo03
import Derived.RegionTactic
import Derived.BigRegion
import Derived.Deep.RegionHeld3
import Derived.Deep.RegionLaw
import Derived.Deep.AppendLies
namespace Go.Proofs.YtidflagmdabfaaaGreatDoor.UriS
open Go.RowKit Go.Proofs.YtidflagmdabfaaaGreatDoor

/-- a byte that stands for itself -/
def Ok (slash : Bool) (n : Nat) : Prop :=
  (97 ≤ n ∧ n ≤ 122) ∨ (65 ≤ n ∧ n ≤ 90) ∨ (48 ≤ n ∧ n ≤ 57) ∨ (45 ≤ n ∧ n ≤ 45) ∨ (95 ≤ n ∧ n ≤ 95) ∨ (46 ≤ n ∧ n ≤ 46) ∨ (126 ≤ n ∧ n ≤ 126) ∨ (47 ≤ n ∧ n ≤ 47 ∧ slash = true)
/-- a byte that does not -/
def Not (slash : Bool) (n : Nat) : Prop :=
  n < 45 ∨ (47 ≤ n ∧ n < 48 ∧ slash = false) ∨ (58 ≤ n ∧ n < 65) ∨ (91 ≤ n ∧ n < 95) ∨ (96 ≤ n ∧ n < 97) ∨ (123 ≤ n ∧ n < 126) ∨ 127 ≤ n
theorem self_ok {slash : Bool} {c : UInt8} (h : UriD.self slash c = true) : Ok slash c.toNat := by
  simp only [UriD.self, UriD.pl, Bool.or_eq_true, Bool.and_eq_true, decide_eq_true_eq, beq_iff_eq] at h
  unfold Ok
  rcases h with ((((((h | h) | h) | rfl) | rfl) | rfl) | rfl) | ⟨rfl, h⟩
  · exact .inl h
  · exact .inr (.inl h)
  · exact .inr (.inr (.inl h))
  · right; right; right; left; exact ⟨by decide, by decide⟩
  · right; right; right; right; left; exact ⟨by decide, by decide⟩
  · right; right; right; right; right; left; exact ⟨by decide, by decide⟩
  · right; right; right; right; right; right; left; exact ⟨by decide, by decide⟩
  · right; right; right; right; right; right; right; exact ⟨by decide, by decide, h⟩
theorem self_not {slash : Bool} {c : UInt8} (h : UriD.self slash c = false) : Not slash c.toNat := by
  have n1 : c.toNat ≠ 45 := fun e => by
    obtain rfl : c = 45 := UInt8.toNat_inj.1 e
    cases slash <;> exact absurd h (by decide)
  have n2 : c.toNat ≠ 95 := fun e => by
    obtain rfl : c = 95 := UInt8.toNat_inj.1 e
    cases slash <;> exact absurd h (by decide)
  have n3 : c.toNat ≠ 46 := fun e => by
    obtain rfl : c = 46 := UInt8.toNat_inj.1 e
    cases slash <;> exact absurd h (by decide)
  have n4 : c.toNat ≠ 126 := fun e => by
    obtain rfl : c = 126 := UInt8.toNat_inj.1 e
    cases slash <;> exact absurd h (by decide)
  have n5 : c.toNat = 47 → slash = false := fun e => by
    obtain rfl : c = 47 := UInt8.toNat_inj.1 e
    cases slash
    · rfl
    · exact absurd h (by decide)
  simp only [UriD.self, UriD.pl, Bool.or_eq_false_iff, Bool.and_eq_false_iff, decide_eq_false_iff_not] at h
  have h1 := h.1.1.1.1.1.1.1
  have h2 := h.1.1.1.1.1.1.2
  have h3 := h.1.1.1.1.1.2
  unfold Not
  by_cases e : c.toNat = 47
  · exact .inr (.inl ⟨by omega, by omega, n5 e⟩)
  · omega

theorem refDig {i : Nat} {h : i < (ByteArray.mk #[48, 49, 50, 51, 52, 53, 54, 55, 56, 57, 65, 66, 67, 68, 69, 70]).size} : ((ByteArray.mk #[48, 49, 50, 51, 52, 53, 54, 55, 56, 57, 65, 66, 67, 68, 69, 70])[i]'h) = UriD.hx i := UriD.dig_get h

theorem own_drew {w : World} {base : Nat} {e : TypeId} {size : Nat} {v : Value} {n : Nat} {xs : List Value} (h : w.ownsRow base e size v n xs) : w.drew.ownsRow base e size v n xs := h
theorem cells_drew {w : World} {p : Addr} {xs : List Value} (h : ∀ (j : Nat) u, xs[j]? = some u → w.cell? (p.add j) = some u) : ∀ (j : Nat) u, xs[j]? = some u → w.drew.cell? (p.add j) = some u := h

theorem cells3 (w : World) (a b c : Value) (t : TypeId) : ∀ (j : Nat) u, [a, b, c][j]? = some u → (w.alloc (.cells #[a, b, c] t)).cell? ((⟨w.heap.size, 0, none⟩ : Addr).add j) = some u := by
  intro j u hj
  have h := heap_alloc_new w (.cells #[a, b, c] t)
  rw [UriA.addr_add, Nat.zero_add, Lib.cell_of_heap h]
  simpa using hj
theorem one3 (a b c : Int) : ∀ u ∈ [Value.int .u8 a, .int .u8 b, .int .u8 c], u.oneCell' = true := by
  intro u hu
  simp only [List.mem_cons, List.not_mem_nil, or_false] at hu
  rcases hu with rfl | rfl | rfl
  · rfl
  · rfl
  · rfl

set_option maxHeartbeats 8000000 in
set_option maxRecDepth 100000 in
theorem encode (s : ByteArray) (slash : Bool) (w : World) (hs : s.size ≤ 16777216) :
    Calls Tryz.prog 131 #[.string s, .bool slash] w fun e w' => e = .returned (.string ⟨(UriD.enc slash s.data.toList).toArray⟩) ∧ Below w.heap.size w w' := by
  obtain ⟨i0, hi, hz0, hz1, hz2⟩ := info_parts UriA.infoByte
  go_enter Tryz.func131, Tryz.ntmps131
  go_wp2_with fail
  go_loopg [5, 7] s.size (fun g v i wr => ∃ k : Nat, k + g = s.size ∧ i = .int .i64 k ∧ wr.ownsRow w.heap.size 5 1 v (UriD.enc slash (s.data.toList.take k)).length (Lib.byteCells (UriD.enc slash (s.data.toList.take k))) ∧ Below w.heap.size w wr)
  case atStart => exact ⟨0, by simp, rfl, ⟨rfl, .inr ⟨w.heap.size, 0, _, rfl, Nat.le_refl _, heap_alloc_new _ _, Nat.le_refl _, by unfold maxLen; omega, rfl, rfl⟩⟩, (Below.refl _ w).alloc (Nat.le_refl _) _⟩
  case round =>
    obtain ⟨k, hkg, rfl, hown, hb⟩ := hrel
    have HG := Lib.hid hkg
    have hsz := hb.size
    by_cases hlt : k < s.size
    · have HN := Lib.hid (show UriD.enc slash (s.data.toList.take (k + 1)) = UriD.enc slash (s.data.toList.take k) ++ UriD.enc1 slash s[k] by rw [Com.take_succ s k hlt, UriD.enc_snoc])
      have hl : (UriD.enc slash (s.data.toList.take k)).length ≤ 3 * s.size := by
        have h1 := UriD.enc_len slash (s.data.toList.take k)
        have h2 : (s.data.toList.take k).length ≤ k := List.length_take_le _ _
        omega
      have hc := UInt8.toNat_lt s[k]
      cases hp : UriD.self slash s[k]
      · have hnot := self_not hp
        have HE := Lib.hid (show UriD.enc1 slash s[k] = [37, UriD.hx (s[k].toNat / 16), UriD.hx (s[k].toNat % 16)] by simp [UriD.enc1, hp])
        generalize hout : UriD.enc slash (s.data.toList.take k) = out at *
        have q1 : (s[k].toNat : Int) / 16 < 16 := by omega
        have q2 : (s[k].toNat : Int) % 16 < 16 := by omega
        have q3 : (0 : Int) ≤ (s[k].toNat : Int) / 16 := by omega
        have d1 : ((s[k].toNat : Int) / 16).toNat = s[k].toNat / 16 := by omega
        have d2 : ((s[k].toNat : Int) % 16).toNat = s[k].toNat % 16 := by omega
        have q5 : IntKind.u8.wrap ((s[k].toNat : Int) / 16) = (s[k].toNat : Int) / 16 := IntWalk.u8_in _ ⟨by omega, by omega⟩
        have q6 : IntKind.u8.wrap ((s[k].toNat : Int) % 16) = (s[k].toNat : Int) % 16 := IntWalk.u8_in _ ⟨by omega, by omega⟩
        have q7 : (s[k].toNat : Int).tmod 16 = (s[k].toNat : Int) % 16 := Int.tmod_eq_emod_of_nonneg (by omega)
        have q4 : (0 : Int) ≤ (s[k].toNat : Int) % 16 := by omega
        clear hp hout hkg
        rcases hnot with h1 | ⟨h1, h2, rfl⟩ | ⟨h1, h2⟩ | ⟨h1, h2⟩ | ⟨h1, h2⟩ | ⟨h1, h2⟩ | h1
        all_goals
          have t45 : ((s[k].toNat : Int) == 45) = false := by simp; omega
          have t95 : ((s[k].toNat : Int) == 95) = false := by simp; omega
          have t46 : ((s[k].toNat : Int) == 46) = false := by simp; omega
          have t126 : ((s[k].toNat : Int) == 126) = false := by simp; omega
          first
            | have t47 : ((s[k].toNat : Int) == 47) = false := by simp; omega
            | have t47 : ((s[k].toNat : Int) == 47) = true := by simp; omega
        all_goals
          go_wp2_with fail
          go_region_held3 (fun _ => True)
            (first | trivial | go_keep)
            (first | (refine step_append_lies _ (by rfl) (.tmp 68) (.tmp 77) _ (by rfl) w.heap.size 5 i0 _ 1 1 Tryz.underlying23 hi hz0 hz1 hz2 rfl (by omega) u5 out.length (Lib.byteCells out) (by rfl) (own_drew (hown.alloc _)) ⟨wr.heap.size, 0, none⟩ 3 3 _ (by rfl) (by rfl) (cells_drew (cells3 _ _ _ _ _)) (one3 _ _ _) (by omega) (by unfold maxLen; omega) (by omega) (by show w.heap.size ≤ (World.alloc wr _).heap.size; rw [World.size_alloc]; omega) (wr.heap.size + 1) (by show (World.alloc wr _).heap.size = _; rw [World.size_alloc]) ?_; intro gg cap w7 hown7 hg7 hat hlt7))
          all_goals
            rw [UriD.dig_get, UriD.dig_get] at hown7
            have hown1 : w7.ownsRow w.heap.size 5 1 (.slice (some ⟨gg, 0, none⟩) (out.length + 3) cap) (out ++ [37, UriD.hx (s[k].toNat / 16), UriD.hx (s[k].toNat % 16)]).length (Lib.byteCells (out ++ [37, UriD.hx (s[k].toNat / 16), UriD.hx (s[k].toNat % 16)])) := by
              simpa [Lib.byteCells] using hown7
            have hb1 : Below w.heap.size w w7 := ((hb.alloc hb.size _).drew).grown hg7 (by show w.heap.size ≤ (World.alloc wr _).heap.size; rw [World.size_alloc]; omega) (fun j hj => (hown.lt j hj).1)
            have HO1 := Lib.hid hown1; clear hown1 hown7 hg7 hat hlt7
            go_wp2
            go_roundg (s.size - (k + 1))
            case measure => have := HG.out; omega
            case rel => exact ⟨k + 1, by have := HG.out; omega, by go_num, by rw [HN.out, HE.out]; exact HO1.out, hb1⟩
      · have hok := self_ok hp
        have HE := Lib.hid (show UriD.enc1 slash s[k] = [s[k]] by simp [UriD.enc1, hp])
        generalize hout : UriD.enc slash (s.data.toList.take k) = out at *
        clear hp hout hkg
        rcases hok with ⟨h1, h2⟩ | ⟨h1, h2⟩ | ⟨h1, h2⟩ | ⟨h1, h2⟩ | ⟨h1, h2⟩ | ⟨h1, h2⟩ | ⟨h1, h2⟩ | ⟨h1, h2, rfl⟩
        all_goals
          first
            | have t45 : ((s[k].toNat : Int) == 45) = false := by simp; omega
            | have t45 : ((s[k].toNat : Int) == 45) = true := by simp; omega
          first
            | have t95 : ((s[k].toNat : Int) == 95) = false := by simp; omega
            | have t95 : ((s[k].toNat : Int) == 95) = true := by simp; omega
          first
            | have t46 : ((s[k].toNat : Int) == 46) = false := by simp; omega
            | have t46 : ((s[k].toNat : Int) == 46) = true := by simp; omega
          first
            | have t126 : ((s[k].toNat : Int) == 126) = false := by simp; omega
            | have t126 : ((s[k].toNat : Int) == 126) = true := by simp; omega
          first
            | have t47 : ((s[k].toNat : Int) == 47) = false := by simp; omega
            | have t47 : ((s[k].toNat : Int) == 47) = true := by simp; omega
        all_goals
          go_wp2_with (at_builtin; refine wpList_append_own _ rfl _ _ 23 rfl w.heap.size 5 i0 (.int .u8 0) 1 1 Tryz.underlying23 hi hz0 hz1 hz2 rfl (by decide) _ _ _ rfl (hown.alloc _) ⟨wr.heap.size, 0, none⟩ 1 1 [.int .u8 (s[k].toNat : Int)] rfl rfl (Com.cells_new _ _ _) (by simp [Value.oneCell']) (by unfold maxLen; omega) (by omega) (by simp; omega) ?_; intro v' w1 hown' hgrow _)
          have hown1 : w1.ownsRow w.heap.size 5 1 v' (out ++ [s[k]]).length (Lib.byteCells (out ++ [s[k]])) := by simpa [Lib.byteCells] using hown'
          have hb1 : Below w.heap.size w w1 := (hb.alloc hb.size _).grown hgrow (by simp; omega) (fun j hj => (hown.lt j hj).1)
          have HO1 := Lib.hid hown1; clear hown1 hown'
          go_roundg (s.size - (k + 1))
          case measure => have := HG.out; omega
          case rel => exact ⟨k + 1, by omega, by go_num, by rw [HN.out, HE.out]; exact HO1.out, hb1⟩
    · have HK := Lib.hid (show s.data.toList.take k = s.data.toList from List.take_of_length_le (by rw [Com.toList_length]; omega))
      rw [HK.out] at hown
      obtain ⟨A, c, rfl, hbs⟩ := UriA.bs_own hown
      have kc := UriA.to_string hbs
      go_wp2_with fail
      go_ret
      exact ⟨rfl, hb⟩
end Go.Proofs.YtidflagmdabfaaaGreatDoor.UriS
namespace Go.Proofs.YtidflagmdabfaaaGreatDoor.UriX
open Go.RowKit Go.Proofs.YtidflagmdabfaaaGreatDoor Go.Proofs.YtidflagmdabfaaaGreatDoor.UriC Go.Proofs.YtidflagmdabfaaaGreatDoor.UriN Go.Proofs.YtidflagmdabfaaaGreatDoor.UriO Go.Proofs.YtidflagmdabfaaaGreatDoor.UriR Go.Proofs.YtidflagmdabfaaaGreatDoor.UriQ

theorem join_snoc (l : List (List UInt8)) (x sep : List UInt8) : Lib.join (l ++ [x]) sep = if l = [] then x else Lib.join l sep ++ sep ++ x := by
  cases l with
  | nil => simp [Lib.join_one]
  | cons y r =>
    rw [List.cons_append, Lib.join_cons, Lib.join_cons, if_neg (by simp)]
    simp [Lib.joinTail]
theorem join_take_le (l : List (List UInt8)) (k : Nat) (sep : List UInt8) : (Lib.join (l.take k) sep).length ≤ (Lib.join l sep).length := by
  cases l with
  | nil => simp
  | cons y r =>
    cases k with
    | zero => simp [Lib.join_nil]
    | succ k =>
      rw [List.take_succ_cons, Lib.join_cons, Lib.join_cons, List.length_append, List.length_append]
      have := Lib.joinTail_take_le sep r k
      omega
theorem encodeR (l : List UInt8) (slash : Bool) (w0 : World) (g : Nat) (v0 v1 : Value) (w : World) (hs : l.length ≤ 16777216) (ht : Below w0.heap.size w0 w) (h0 : w.cell? ⟨g, 0, none⟩ = some v0) (h1 : w.cell? ⟨g, 1, none⟩ = some v1) :
    Calls Tryz.prog 131 #[.string ⟨l.toArray⟩, .bool slash] w fun e w' => e = .returned (.string ⟨(UriD.enc slash l).toArray⟩) ∧ (w'.cell? ⟨g, 0, none⟩ = some v0 ∧ w'.cell? ⟨g, 1, none⟩ = some v1) ∧ Below w0.heap.size w0 w' :=
  (UriS.encode ⟨l.toArray⟩ slash w (by rw [Com.size_mk]; exact hs)).mono fun _ _ ⟨he, hb⟩ => ⟨he, ⟨(hb.cell (World.block_lt_of_cell? w _ h0)).trans h0, (hb.cell (World.block_lt_of_cell? w _ h1)).trans h1⟩, ht.trans (hb.mono ht.size)⟩
theorem add_eq (S : List UInt8) (q : Pr) : ((⟨S.toArray⟩ : ByteArray) ++ (((⟨(UriD.enc false q.1).toArray⟩ : ByteArray) ++ ⟨#[61]⟩) ++ ⟨(UriD.enc false q.2).toArray⟩)) = ⟨(S ++ pt q).toArray⟩ := by
  rw [UriP.pt_eq, Com.mk_append]

set_option maxHeartbeats 8000000 in
set_option maxRecDepth 100000 in
theorem canonical (p : ByteArray) {a : Option Addr} {ps : List Pr} (c : Nat) (w : World) (hp : Pairs w a ps) (hl : ps.length ≤ 16777216) (hpl : p.size ≤ 16777216) (hq : ∀ q ∈ ps, q.1.length ≤ 16777216 ∧ q.2.length ≤ 16777216) (hj : (qt ps).length ≤ 140737488355328) :
    Calls Tryz.prog 75 #[.agg #[.string p, .slice a ps.length c]] w fun e w' => e = .returned (.tuple #[.string ⟨(UriD.enc true p.data.toList).toArray⟩, .string ⟨(qt ps).toArray⟩]) ∧ Below w.heap.size w w' := by
  go_enter Tryz.func75, Tryz.ntmps75
  go_wp2_with fail
  have hb0 : Below w.heap.size w (w.alloc (.cells #[.string p, .slice a ps.length c] 97)) := (Below.refl _ w).alloc (Nat.le_refl _) _
  refine (UriT.sorted c _ (UriL.Pairs.below hp hb0) hl).mono ?_
  rintro e w1 ⟨⟨v, rfl, hown⟩, hb1⟩
  have hU1 : UriK.Ub w.heap.size w1 (.string p) (.slice a ps.length c) := (hb1.block _ (by simp)).trans (heap_alloc_new _ _)
  have hB1 : Below w.heap.size w w1 := hb0.trans (hb1.mono (by simp))
  rw [← srt_length ps] at hown
  obtain ⟨a', c', rfl, hcc, hpp⟩ := pairs_of_own hown
  have hsl := srt_length ps
  have hsm : ∀ q ∈ srt ps, q.1.length ≤ 16777216 ∧ q.2.length ≤ 16777216 := fun q h => hq q (srt_mem h)
  have hjt : ∀ k, (Lib.join (((srt ps).map pt).take k) [38]).length ≤ 140737488355328 := fun k => Nat.le_trans (join_take_le _ k _) hj
  have HQT := Lib.hid (show qt ps = Lib.join ((srt ps).map pt) [38] from rfl)
  generalize hss : srt ps = ss at *
  have hssl : ss.length ≤ 16777216 := by omega
  have HPP := Lib.hid hpp; have HSM := Lib.hid hsm; have HJT := Lib.hid hjt; have HU := Lib.hid hU1; have HB := Lib.hid hB1
  have hwl := hU1.lt
  clear hown hss hp hq hb0 hb1 hU1 hB1 hpp hsm hjt hj hsl
  go_wp2_with fail
  go_loopg [4, 5, 11] ss.length (fun g v4 _ v11 wr => ∃ k : Nat, k + g = ss.length ∧ v11 = .int .i64 k ∧ v4 = .string ⟨(Lib.join ((ss.map pt).take k) [38]).toArray⟩ ∧ Below w1.heap.size w1 wr)
  case atStart => exact ⟨0, by simp, rfl, rfl, Below.refl _ _⟩
  case round =>
    obtain ⟨k, hkg, rfl, rfl, hb⟩ := hrel
    have HG := Lib.hid hkg; clear hkg
    have hsz := hb.size
    by_cases hlt : k < ss.length
    · obtain ⟨q, hqk⟩ : ∃ q, ss[k]? = some q := ⟨ss[k], List.getElem?_eq_getElem hlt⟩
      obtain ⟨b, o, rfl, hbb, d0, d1⟩ := cells_at HPP.out hqk
      have c0 := (hb.cell (p := ⟨b, o + k * 2, none⟩) hbb).trans d0
      have c1 := (hb.cell (p := ⟨b, o + k * 2 + 1, none⟩) hbb).trans d1
      obtain ⟨n1, n2⟩ := HSM.out q (List.mem_of_getElem? hqk)
      have hSl := HJT.out k
      have HTK := Lib.hid (show (ss.map pt).take (k + 1) = (ss.map pt).take k ++ [pt q] by rw [List.take_add_one, List.getElem?_map, hqk]; rfl)
      have HNE := Lib.hid (show k ≠ 0 → (ss.map pt).take k ≠ [] from fun h e => by
        have := congrArg List.length e
        rw [List.length_take, List.length_map, List.length_nil] at this
        omega)
      have HZ := Lib.hid (show k = 0 → (ss.map pt).take k = [] from fun h => by rw [h]; rfl)
      generalize (ss.map pt).take k = tk at *
      generalize hS : Lib.join tk [38] = S at *
      have HS := Lib.hid hS
      obtain ⟨nm, vl⟩ := q
      simp only at c0 c1 n1 n2
      have e1 := UriD.enc_len false nm
      have e2 := UriD.enc_len false vl
      have s1 : ¬ 9223372036854775807 < (UriD.enc false nm).length + 1 := by omega
      have s2 : ¬ 9223372036854775807 < (UriD.enc false nm).length + 1 + (UriD.enc false vl).length := by omega
      have HT : Below wr.heap.size wr (wr.alloc (.cells #[.string ⟨nm.toArray⟩, .string ⟨vl.toArray⟩] 152)) := (Below.refl _ _).alloc (Nat.le_refl _) _
      clear d0 d1 hqk hS
      by_cases hk0 : k = 0
      · subst hk0
        simp only [Nat.zero_mul, Nat.add_zero] at c0 c1
        have s3 : ¬ 9223372036854775807 < S.length + ((UriD.enc false nm).length + 1 + (UriD.enc false vl).length) := by omega
        go_wp2_with fail
        go_region_held3 (fun w' => w'.cell? ⟨wr.heap.size, 0, none⟩ = some (.string ⟨nm.toArray⟩) ∧ w'.cell? ⟨wr.heap.size, 1, none⟩ = some (.string ⟨vl.toArray⟩))
          (first | go_keep)
          (first
            | (go_at_call 131; refine (encodeR _ _ wr wr.heap.size (.string ⟨nm.toArray⟩) (.string ⟨vl.toArray⟩) _ ?_ ?_ ?_ ?_).mono ?_; (first | exact n1 | exact n2); (first | assumption | exact HT | exact HT.drew); (simp [*]); (simp [*]); rintro e w6 ⟨rfl, k6, t6⟩))
        have B6 := hb.trans (t6.mono hsz)
        clear c0 c1 HT t6 k6 hb
        go_wp2
        go_roundg (ss.length - (0 + 1))
        case measure => have := HG.out; omega
        case rel =>
          refine ⟨0 + 1, by omega, by go_num, ?_, B6⟩
          rw [HTK.out, join_snoc, if_pos (HZ.out (by trivial))]
          have hS0 := HS.out
          rw [HZ.out (by trivial), Lib.join_nil] at hS0
          subst hS0
          exact congrArg Value.string (add_eq [] (nm, vl))
      · have s0 : ¬ 9223372036854775807 < S.length + 1 := by omega
        have s3 : ¬ 9223372036854775807 < S.length + 1 + ((UriD.enc false nm).length + 1 + (UriD.enc false vl).length) := by omega
        have hk1 : 0 < k := by omega
        go_wp2_with fail
        go_region_held3 (fun w' => w'.cell? ⟨wr.heap.size, 0, none⟩ = some (.string ⟨nm.toArray⟩) ∧ w'.cell? ⟨wr.heap.size, 1, none⟩ = some (.string ⟨vl.toArray⟩))
          (first | go_keep)
          (first
            | (go_at_call 131; refine (encodeR _ _ wr wr.heap.size (.string ⟨nm.toArray⟩) (.string ⟨vl.toArray⟩) _ ?_ ?_ ?_ ?_).mono ?_; (first | exact n1 | exact n2); (first | assumption | exact HT | exact HT.drew); (simp [*]); (simp [*]); rintro e w6 ⟨rfl, k6, t6⟩))
        have B6 := hb.trans (t6.mono hsz)
        clear c0 c1 HT t6 k6 hb
        go_wp2
        go_roundg (ss.length - (k + 1))
        case measure => have := HG.out; omega
        case rel =>
          refine ⟨k + 1, by omega, by go_num, ?_, B6⟩
          rw [HTK.out, join_snoc, if_neg (HNE.out hk0), HS.out, ← add_eq (S ++ [38]) (nm, vl), ← Com.mk_append S [38]]
    · have HK := Lib.hid (show (ss.map pt).take k = ss.map pt from List.take_of_length_le (by rw [List.length_map]; omega))
      rw [HK.out]
      rw [← HQT.out]
      have hbw : Below w.heap.size w wr := HB.out.trans (hb.mono HB.out.size)
      obtain ⟨d0, d1, _⟩ := (HU.out.below hb).cells
      have HBW := Lib.hid hbw
      clear hbw hb
      go_wp2_with fail
      refine (UriS.encode p true _ hpl).mono ?_
      rintro e w3 ⟨rfl, hb3⟩
      have hB3 := HBW.out.trans (hb3.mono HBW.out.size)
      clear hb3 d0 d1
      go_wp2_with fail
      go_ret2
      exact ⟨rfl, hB3⟩
end Go.Proofs.YtidflagmdabfaaaGreatDoor.UriX
namespace Go.Proofs.YtidflagmdabfaaaGreatDoor.RsT
open Go.RowKit Go.Proofs.YtidflagmdabfaaaGreatDoor Go.Proofs.YtidflagmdabfaaaGreatDoor.HtW Go.Proofs.YtidflagmdabfaaaGreatDoor.HtC Go.Proofs.YtidflagmdabfaaaGreatDoor.Lf Go.Proofs.YtidflagmdabfaaaGreatDoor.App Go.Proofs.YtidflagmdabfaaaGreatDoor.ShaG Go.Proofs.YtidflagmdabfaaaGreatDoor.SgB

/-- a text, or an error's number -/
def rv : Sg.Ans (List UInt8) → Value
  | .no e => .tuple #[.string ⟨#[]⟩, .int .i64 e.num]
  | .ok l => .tuple #[.string ⟨l.toArray⟩, .int .i64 0]

set_option maxHeartbeats 4000000 in
set_option maxRecDepth 100000 in
theorem rtext (m t bd : List UInt8) (fsV : Value) {ab : Option Addr} (cb : Nat) (date : Int) (w : World) (hb : Bs w ab bd cb) (ht : t.length ≤ 16777215) (hm : m.length ≤ 16777216) (hbl : bd.length ≤ 140737488350000) (h0 : -9223372036854775808 ≤ date) (h1 : date ≤ 9223372036854775807) :
    Calls Tryz.prog 37 #[.agg #[.string ⟨m.toArray⟩, .string ⟨t.toArray⟩, fsV, .slice ab bd.length cb], .int .i64 date] w fun e w' => e = .returned (rv (Sg.text m t bd date)) ∧ Below w.heap.size w w' := by
  have HB := Lib.hid hb; clear hb
  have hA := (Below.refl w.heap.size w).alloc (Nat.le_refl _) (.cells #[.string ⟨m.toArray⟩, .string ⟨t.toArray⟩, fsV, .slice ab bd.length cb] 25)
  have hR0 : Rq w.heap.size (w.alloc (.cells #[.string ⟨m.toArray⟩, .string ⟨t.toArray⟩, fsV, .slice ab bd.length cb] 25)) _ _ _ _ := heap_alloc_new w _
  have hts : (ByteArray.mk t.toArray).size ≤ 16777216 := by rw [Com.size_mk]; omega
  have KP := Lib.hid (UriK.parse ⟨t.toArray⟩ (w.alloc (.cells #[.string ⟨m.toArray⟩, .string ⟨t.toArray⟩, fsV, .slice ab bd.length cb] 25)) hts)
  cases hP : Up.parse t with
  | none =>
    have HR := Lib.hid (show Sg.text m t bd date = .no .uri by unfold Sg.text; rw [hP])
    have HP := Lib.hid hP
    clear hP
    go_enter Tryz.func37, Tryz.ntmps37
    go_wp2_with fail
    refine KP.out.mono ?_
    rw [HP.out]
    rintro e w1 ⟨rfl, hb1⟩
    go_wp2_with fail
    go_ret2
    exact ⟨by rw [HR.out]; rfl, (hA.trans (hb1.mono hA.size)).alloc (Nat.le_trans hA.size hb1.size) _⟩
  | some u =>
    have HP := Lib.hid hP
    have HRd := Lib.hid (UriR.parse_read hP)
    by_cases hlo : date < 0
    · have HR := Lib.hid (show Sg.text m t bd date = .no .req by
        unfold Sg.text; rw [hP]; simp only; rw [if_neg]; simp only [Sg.goodDate, Bool.and_eq_true, decide_eq_true_eq]; omega)
      clear hP
      go_enter Tryz.func37, Tryz.ntmps37
      go_wp2_with fail
      refine KP.out.mono ?_
      rw [HP.out]
      rintro e w1 ⟨⟨aq, cq, rfl, -, -⟩, hb1⟩
      go_wp2_with fail
      go_ret2
      exact ⟨by rw [HR.out]; rfl, (hA.trans (hb1.mono hA.size)).alloc (Nat.le_trans hA.size hb1.size) _⟩
    · have hlo' : decide (date < 0) = false := decide_eq_false hlo
      by_cases hhi : 1099511627776 < date
      · have HR := Lib.hid (show Sg.text m t bd date = .no .req by
          unfold Sg.text; rw [hP]; simp only; rw [if_neg]; simp only [Sg.goodDate, Bool.and_eq_true, decide_eq_true_eq]; omega)
        clear hP
        go_enter Tryz.func37, Tryz.ntmps37
        go_wp2_with fail
        refine KP.out.mono ?_
        rw [HP.out]
        rintro e w1 ⟨⟨aq, cq, rfl, -, -⟩, hb1⟩
        go_wp2_with fail
        go_ret2
        exact ⟨by rw [HR.out]; rfl, (hA.trans (hb1.mono hA.size)).alloc (Nat.le_trans hA.size hb1.size) _⟩
      · have hhi' : decide (1099511627776 < date) = false := decide_eq_false hhi
        have HR := Lib.hid (show Sg.text m t bd date = .ok (Sg.lines m u bd date) by
          unfold Sg.text; rw [hP]; simp only; rw [if_pos]; simp only [Sg.goodDate, Bool.and_eq_true, decide_eq_true_eq]; omega)
        have HL := Lib.hid (lines_len (bd := bd) (date := date) hP (by omega) hm h0 h1)
        have hp1 := HRd.out.sizes
        have hp2 := HRd.out.count
        have hqt := UriR.qt_len u.query
        have hen := UriD.enc_len true u.path
        have hqs : ∀ q ∈ u.query, q.1.length ≤ 16777216 ∧ q.2.length ≤ 16777216 := fun q hq => by have := UriR.sz_mem hq; omega
        have hsl := Sha.sha_length bd
        have hil := Dec.itoa_len h0 h1
        obtain ⟨k, rfl⟩ := Int.eq_ofNat_of_zero_le (show 0 ≤ date by omega)
        clear hP
        go_enter Tryz.func37, Tryz.ntmps37
        go_wp2_with fail
        refine KP.out.mono ?_
        rw [HP.out]
        rintro e w1 ⟨⟨aq, cq, rfl, hq0, hq1⟩, hb1⟩
        have hR1 := hR0.below hb1
        have hbA := hA.trans (hb1.mono hA.size)
        have hb2 := (Below.refl w1.heap.size w1).alloc (Nat.le_refl _) (.cells #[.string ⟨u.path.toArray⟩, .slice aq u.query.length cq] 97)
        have HR2 := Lib.hid (hR1.below hb2)
        have HB2 := Lib.hid (hbA.trans (hb2.mono hbA.size))
        have hq2 := pairs_below hq1 hb2
        have KC := Lib.hid (UriX.canonical ⟨u.path.toArray⟩ cq _ hq2 (by omega) (by rw [Com.size_mk]; omega) hqs (by omega))
        clear hA hR0 KP hR1 hbA hb2 hq1 hq2 hb1 hq0 hqs
        go_wp2_with fail
        refine KC.out.mono ?_
        rintro e w3 ⟨rfl, hb3⟩
        have hR3 := HR2.out.below hb3
        have hB3 := HB2.out.trans (hb3.mono HB2.out.size)
        have HBd3 := Lib.hid (HB.out.below hB3)
        clear KC HR2 HB2 hb3
        obtain ⟨x0, x1, x2, x3, -, -, -, -⟩ := hR3.cells
        have KS := Lib.hid (RsB.sum bd cb _ HBd3.out hbl)
        go_wp2_with (first
          | (go_at_call 76; refine KS.out.mono ?_; rintro e w4 ⟨rfl, hb4⟩)
          | (guard_target =~ wpList _ _ _ ({ dst := _, op := Op.store 128 _ _, type := _, pos := _, after := _, guard := none } :: _) _ _; refine store32 rfl _ _ rfl (Sha.sha bd) hsl rfl rfl rfl ?_; intro w8 z8 h8 hb8))
        have hbE := hB3.trans ((hb4.trans (hb8.mono hb4.size)).mono hB3.size)
        have y0 := ((hb4.trans (hb8.mono hb4.size)).cell (p := ⟨w.heap.size, 0, none⟩) (World.block_lt_of_cell? _ _ x0)).trans x0
        have H8 := Lib.hid (bs_box h8 32 (Nat.le_of_eq hsl))
        obtain ⟨V, hV⟩ : ∃ V, V = Sha.sha bd := ⟨_, rfl⟩
        have HV := Lib.hid hV
        rw [← hV] at hsl H8 ⊢
        clear hV hR3 hB3 KS x0 x1 x2 x3 hb4 hb8 h8 hp1 hp2
        have KI := Lib.hid (show ∀ W : World, (W.cell? ⟨w.heap.size, 0, none⟩ = some (.string ⟨m.toArray⟩) ∧ Below w8.heap.size w8 W) → Calls Tryz.prog 58 #[.int .i64 (k : Int)] W fun e w' => e = .returned (.string ⟨(Lib.itoa (k : Int)).toArray⟩) ∧ (w'.cell? ⟨w.heap.size, 0, none⟩ = some (.string ⟨m.toArray⟩) ∧ Below w8.heap.size w8 w') from fun W hW => by
          refine (DecW.decimal k (by omega) W).mono ?_
          rintro e w9 ⟨rfl, hb9⟩
          exact ⟨by unfold Lib.itoa; rw [if_neg (by omega)]; rfl, S_next hW hb9⟩)
        have KH := Lib.hid (show ∀ W : World, (W.cell? ⟨w.heap.size, 0, none⟩ = some (.string ⟨m.toArray⟩) ∧ Below w8.heap.size w8 W) → Calls Tryz.prog 77 #[.slice (some ⟨w4.heap.size, 0, none⟩) 32 32] W fun e w' => e = .returned (.string ⟨(Nm.hex V).toArray⟩) ∧ (w'.cell? ⟨w.heap.size, 0, none⟩ = some (.string ⟨m.toArray⟩) ∧ Below w8.heap.size w8 w') from fun W hW => by
          have hh := RsS.rhex V 32 W (H8.out.below hW.2) (by omega)
          rw [hsl] at hh
          refine hh.mono ?_
          rintro e w9 ⟨rfl, hb9⟩
          exact ⟨rfl, S_next hW hb9⟩)
        obtain ⟨T, hTE⟩ : ∃ T, T = Sg.lines m u bd (k : Int) := ⟨_, rfl⟩
        have hhl : (Nm.hex V).length = 64 := by rw [Nm.hex_length, hsl]
        rw [← hTE] at HR
        have hTL : T = Sg.scheme ++ [10] ++ Lib.itoa (k : Int) ++ [10] ++ m ++ [10] ++ UriD.enc true u.path ++ [10] ++ UriR.qt u.query ++ [10] ++ Nm.hex V := by rw [hTE, HV.out]; rfl
        have HLT := HL.out
        rw [← hTE, hTL] at HLT
        simp only [List.length_append, List.length_cons, List.length_nil] at HLT
        have hsc : Sg.scheme.length = 8 := rfl
        generalize UriD.enc true u.path = P1 at *
        generalize UriR.qt u.query = P2 at *
        generalize Nm.hex V = P3 at *
        generalize Lib.itoa (k : Int) = P4 at *
        have HCT := Lib.hid (show ((((((((((⟨#[66, 79, 76, 76, 65, 82, 68, 49, 10]⟩ : ByteArray) ++ ⟨P4.toArray⟩) ++ ⟨#[10]⟩) ++ ⟨m.toArray⟩) ++ ⟨#[10]⟩) ++ ⟨P1.toArray⟩) ++ ⟨#[10]⟩) ++ ⟨P2.toArray⟩) ++ ⟨#[10]⟩) ++ ⟨P3.toArray⟩) = ⟨T.toArray⟩ by
          rw [hTL]
          simp only [Com.mk_append]
          rfl)
        have s1 : ¬ 9223372036854775807 < 9 + P4.length := by omega
        have s2 : ¬ 9223372036854775807 < 9 + P4.length + 1 := by omega
        have s3 : ¬ 9223372036854775807 < 9 + P4.length + 1 + m.length := by omega
        have s4 : ¬ 9223372036854775807 < 9 + P4.length + 1 + m.length + 1 := by omega
        have s5 : ¬ 9223372036854775807 < 9 + P4.length + 1 + m.length + 1 + P1.length := by omega
        have s6 : ¬ 9223372036854775807 < 9 + P4.length + 1 + m.length + 1 + P1.length + 1 := by omega
        have s7 : ¬ 9223372036854775807 < 9 + P4.length + 1 + m.length + 1 + P1.length + 1 + P2.length := by omega
        have s8 : ¬ 9223372036854775807 < 9 + P4.length + 1 + m.length + 1 + P1.length + 1 + P2.length + 1 := by omega
        have s9 : ¬ 9223372036854775807 < 9 + P4.length + 1 + m.length + 1 + P1.length + 1 + P2.length + 1 + P3.length := by omega
        clear hTE hTL HLT hhl hsc hil hqt hen
        go_region_held3 (fun W => W.cell? ⟨w.heap.size, 0, none⟩ = some (.string ⟨m.toArray⟩) ∧ Below w8.heap.size w8 W)
          (first | exact ⟨y0, (Below.refl _ _).drew⟩ | assumption)
          (first
            | (go_at_call 58; refine (KI.out _ (by assumption)).mono ?_; rintro e w9 ⟨rfl, hS9⟩)
            | (go_at_call 77; refine (KH.out _ hS9).mono ?_; rintro e w10 ⟨rfl, hS10⟩))
        go_wp2_with fail
        go_ret2
        exact ⟨by rw [HR.out, HCT.out]; rfl, hbE.trans (hS10.2.mono hbE.size)⟩
end Go.Proofs.YtidflagmdabfaaaGreatDoor.RsT
