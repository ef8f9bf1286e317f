/-
  The walks of the document's endOf, lines, firstLine.
-/
import Derived.Test.YtnhjbcjeeilicaaGreatDoorHtC
import Derived.Test.YtnhjbcjeeilicaaGreatDoorHtBC
import Derived.Deep.LoopGhost
import Derived.WalkSpells
import Derived.WalkLawsBesides
namespace Go.Proofs.YtnhjbcjeeilicaaGreatDoor.HtBD
open Go.RowKit Go.Proofs.YtnhjbcjeeilicaaGreatDoor Go.Proofs.YtnhjbcjeeilicaaGreatDoor.Ht Go.Proofs.YtnhjbcjeeilicaaGreatDoor.HtW Go.Proofs.YtnhjbcjeeilicaaGreatDoor.HtC Go.Proofs.YtnhjbcjeeilicaaGreatDoor.HtV Go.Proofs.YtnhjbcjeeilicaaGreatDoor.HtBA

/-- where a head ends, its end included -/
def endN (l : List UInt8) : Nat := if Lib.index (l.take 2048) crlf2 = -1 then 0 else (Lib.index (l.take 2048) crlf2).toNat + 4
theorem endN_at {l : List UInt8} {i : Nat} (h1 : i + 4 ≤ 2048) (h2 : Lib.occAt l crlf2 i = true) (h3 : ∀ j, j < i → Lib.occAt l crlf2 j = false) : endN l = i + 4 := by
  unfold endN
  rw [some_at h1 h2 h3, if_neg (by omega)]
  rfl
theorem endN_no {l : List UInt8} {i : Nat} (h1 : ∀ j, j < i → Lib.occAt l crlf2 j = false) (h2 : l.length < i + 4 ∨ 2048 < i + 4) : endN l = 0 := by
  unfold endN
  rw [none_at fun j h3 h4 => h1 j (by omega), if_pos rfl]

set_option maxHeartbeats 1000000 in
theorem endOf (l : List UInt8) {a : Option Addr} {c : Nat} (w : World) (hb : Bs w a l c) (hl : l.length ≤ 140737488355328) :
    Calls Tryz.prog 17 #[.slice a l.length c] w fun e w' => e = .returned (.int .i64 (endN l)) ∧ w = w' := by
  have HB := Lib.hid hb; clear hb
  go_enter Tryz.func17, Tryz.ntmps17
  go_wp2
  go_loopg [3] l.length (fun g v wr => ∃ k : Nat, k ≤ l.length ∧ l.length - k = g ∧ v = .int .i64 k ∧ wr = w ∧ Hid (∀ j, j < k → Lib.occAt l crlf2 j = false))
  case atStart => exact ⟨0, Nat.zero_le _, rfl, rfl, rfl, fun _ h => absurd h (Nat.not_lt_zero _)⟩
  case round =>
    obtain ⟨k, hk, hg, rfl, rfl, HN⟩ := hrel
    have HG := Lib.hid hg; clear hg
    have z0 : (0 : Int) ≤ k := by omega
    by_cases h1 : k + 4 ≤ l.length
    · have q1 : (k : Int) + 4 ≤ l.length := by omega
      by_cases h2 : k + 4 ≤ 2048
      · have q2 : (k : Int) + 4 ≤ 2048 := by omega
        obtain ⟨g, o, rfl, hgl, -⟩ := HB.out.2.2.resolve_left (fun e => by rw [e] at h1; simp at h1)
        have hcap := HB.out.1
        have hcap2 : k + 4 ≤ c := Nat.le_trans h1 hcap
        have hp := HB.out.part k 4 h1 (c - k) (by omega)
        have hpl : ((l.drop k).take 4).length = 4 := by rw [List.length_take, List.length_drop]; omega
        have hc := to_string hp
        rw [hpl] at hc
        have z5 : (k : Int) ≤ (k : Int) + 4 := by omega
        have z7 : (k : Int) + 4 ≤ c := by omega
        have x3 : ¬ c = k := by omega
        have hocc := occ_iff l crlf2 k
        have h44 : crlf2.length = 4 := rfl
        rw [h44] at hocc
        generalize (l.drop k).take 4 = X at *
        clear hp hpl hcap hcap2 hgl h44
        by_cases e : X = crlf2
        · have HE := Lib.hid (endN_at h2 (hocc.2 e) HN)
          subst e
          clear hocc
          unfold crlf2 at hc
          go_wp2
          go_ret
          exact ⟨by rw [HE.out]; rfl, rfl⟩
        · have HE := Lib.hid (show ∀ j, j < k + 1 → Lib.occAt l crlf2 j = false from fun j hj => by
            rcases Nat.lt_or_ge j k with h3 | h3
            · exact HN j h3
            · obtain rfl : j = k := by omega
              cases ho : Lib.occAt l crlf2 j with
              | false => rfl
              | true => exact absurd (hocc.1 ho) e)
          have t : (X == [13, 10, 13, 10]) = false := by simpa [crlf2] using e
          clear hocc e
          go_wp2
          go_roundg (l.length - (k + 1))
          case rel => exact ⟨k + 1, by omega, rfl, by go_num, rfl, HE⟩
          case measure => have := HG.out; omega
      · have q2 : ¬ (k : Int) + 4 ≤ 2048 := by omega
        have HE := Lib.hid (endN_no HN (.inr (by omega)))
        go_wp2
        go_ret
        exact ⟨by rw [HE.out]; rfl, rfl⟩
    · have q1 : ¬ (k : Int) + 4 ≤ l.length := by omega
      have HE := Lib.hid (endN_no HN (.inl (by omega)))
      go_wp2
      go_ret
      exact ⟨by rw [HE.out]; rfl, rfl⟩

/-- lists of bytes as strings -/
abbrev mk (out : List (List UInt8)) : List ByteArray := out.map fun x => ⟨x.toArray⟩
theorem mk_line (s : ByteArray) (f k : Nat) : [s.extract f k] = mk [(s.data.toList.drop f).take (k - f)] := by
  have : s.extract f k = ⟨((s.data.toList.drop f).take (k - f)).toArray⟩ := by
    rw [← Com.mk_data (s.extract f k), Com.extract_data, List.drop_take]
  rw [this]
  rfl
theorem mk_rest (s : ByteArray) (f : Nat) : [s.extract f s.size] = mk [s.data.toList.drop f] := by
  rw [mk_line, List.take_of_length_le (by rw [List.length_drop, Com.toList_length]; exact Nat.le_refl _)]
theorem mk_snoc (out : List (List UInt8)) {x : List UInt8} {y : ByteArray} (h : [y] = mk [x]) : (mk out).map Value.string ++ [Value.string y] = (mk (out ++ [x])).map Value.string := by
  have e : mk (out ++ [x]) = mk out ++ mk [x] := List.map_append
  rw [e, List.map_append, ← h]
  rfl
theorem ls_len {s : List UInt8} {i f : Nat} {out : List (List UInt8)} (h : Ls s i f out) : out.length ≤ s.length + 2 := by
  have := split_length [13, 10] s
  rw [h.eq, List.length_append] at this
  omega
theorem get_data {s : ByteArray} {k : Nat} (h : k < s.size) : s.data.toList[k]? = some (s[k]) := by
  rw [List.getElem?_eq_getElem (by rw [Com.toList_length]; exact h)]
  rfl

set_option maxHeartbeats 2000000 in
set_option maxRecDepth 100000 in
theorem lines (s : ByteArray) (w : World) (hs : s.size ≤ 4294967296) :
    Calls Tryz.prog 18 #[.string s] w fun e w' => (∃ a c, e = .returned (.slice a (Ht.split [13, 10] s.data.toList).length c) ∧ (Ht.split [13, 10] s.data.toList).length ≤ c ∧ Com.Strs w' a (mk (Ht.split [13, 10] s.data.toList))) ∧ Below w.heap.size w w' := by
  have infoS : (Tryz.prog.info? 9).map (fun i => (i.zero, i.size, i.bytes)) = some (some (.string ⟨#[]⟩), 1, 16) := by kernel_rfl
  obtain ⟨i0, hi, hz0, hz1, hz2⟩ := info_parts infoS
  clear infoS
  go_enter Tryz.func18, Tryz.ntmps18
  go_wp2
  go_loopg [3, 4, 5] (s.size + 2) (fun g v fv iv wr => ∃ (k f : Nat) (out : List (List UInt8)), k + g = s.size + 2 ∧ iv = .int .i64 k ∧ fv = .int .i64 f ∧ Hid (Ls s.data.toList k f out) ∧ wr.ownsRow w.heap.size 9 1 v (mk out).length ((mk out).map Value.string) ∧ Below w.heap.size w wr)
  case atStart =>
    exact ⟨0, 0, [], by omega, rfl, rfl, Ls.start _, ⟨rfl, .inr ⟨w.heap.size, 0, #[], rfl, Nat.le_refl _, heap_alloc_new _ _, Nat.le_refl _, by unfold maxLen; omega, rfl, rfl⟩⟩, (Below.refl _ w).alloc (Nat.le_refl _) _⟩
  case round =>
    obtain ⟨k, f, out, hg, rfl, rfl, HL, hown, hb⟩ := hrel
    have hk2 : k ≤ s.size + 2 := by omega
    have HG := Lib.hid hg; clear hg
    have hsz := hb.size
    have hfk := HL.le
    have hfs := HL.len
    have hol := ls_len HL
    rw [Com.toList_length] at hfs hol
    have hml : (mk out).length = out.length := List.length_map _
    have z0 : (0 : Int) ≤ k := by omega
    have z1 : (0 : Int) ≤ f := by omega
    have z2 : (f : Int) ≤ k := by omega
    by_cases hlt : k + 1 < s.size
    · have q1 : (k : Int) + 1 < s.size := by omega
      have q2 : k < s.size := by omega
      have g0 := get_data q2
      have g1 := get_data hlt
      by_cases e1 : s[k] = 13
      · by_cases e2 : s[k + 1] = 10
        · have HY := Lib.hid (HL.line (i := k) ⟨by rw [g0, e1], by rw [g1, e2]⟩)
          have EX := Lib.hid (mk_line s f k)
          have t1 : ((s[k].toNat : Int) == 13) = true := by rw [e1]; rfl
          have t2 : ((s[k + 1].toNat : Int) == 10) = true := by rw [e2]; rfl
          clear g0 g1 e1 e2
          go_wp2_with (at_builtin; refine wpList_append_own _ rfl (.tmp 25) (.tmp 30) 49 rfl w.heap.size 9 i0 (.string ⟨#[]⟩) 1 16 Tryz.underlying49 hi hz0 hz1 hz2 rfl (by decide) _ (mk out).length ((mk out).map Value.string) rfl (hown.alloc _) ⟨wr.heap.size, 0, none⟩ 1 1 [.string (s.extract f k)] rfl rfl (Com.cells_new _ _ _) (by intro u hu; simp at hu; subst hu; rfl) (by unfold maxLen; omega) (by omega) (by simp; omega) ?_; intro v' w4 hown4 hg4 _)
          go_roundg (s.size + 2 - (k + 2))
          case measure => have := HG.out; omega
          case rel =>
            have ev : (mk out).map Value.string ++ [Value.string (s.extract f k)] = (mk (out ++ [(s.data.toList.drop f).take (k - f)])).map Value.string := mk_snoc out EX.out
            rw [ev] at hown4
            refine ⟨k + 2, k + 2, _, by have := HG.out; omega, by go_num, by go_num, HY, ?_, ?_⟩
            · simpa using hown4
            · exact (hb.alloc hsz _).grown hg4 (by simp; omega) (fun j hj => (hown.lt j hj).1)
        · have HY := Lib.hid (HL.step (i := k) (fun h => e2 (by have h2 := h.2; rw [g1] at h2; exact Option.some.inj h2)))
          have t2 : ((s[k + 1].toNat : Int) == 10) = false := Com.u8_ne e2 rfl
          have t1 : ((s[k].toNat : Int) == 13) = true := by rw [e1]; rfl
          clear g0 g1 e1 e2
          go_wp2
          go_roundg (s.size + 2 - (k + 1))
          case measure => have := HG.out; omega
          case rel => exact ⟨k + 1, f, out, by have := HG.out; omega, by go_num, rfl, HY, hown, hb⟩
      · have HY := Lib.hid (HL.step (i := k) (fun h => e1 (by have h2 := h.1; rw [g0] at h2; exact Option.some.inj h2)))
        have t1 : ((s[k].toNat : Int) == 13) = false := Com.u8_ne e1 rfl
        clear g0 g1 e1
        go_wp2
        go_roundg (s.size + 2 - (k + 1))
        case measure => have := HG.out; omega
        case rel => exact ⟨k + 1, f, out, by have := HG.out; omega, by go_num, rfl, HY, hown, hb⟩
    · have q1 : ¬ (k : Int) + 1 < s.size := by omega
      have HY := Lib.hid (HL.fin (by rw [Com.toList_length]; omega))
      have EX := Lib.hid (mk_rest s f)
      have z3 : (f : Int) ≤ s.size := by omega
      go_wp2_with (at_builtin; refine wpList_append_own _ rfl (.tmp 36) (.tmp 40) 49 rfl w.heap.size 9 i0 (.string ⟨#[]⟩) 1 16 Tryz.underlying49 hi hz0 hz1 hz2 rfl (by decide) _ (mk out).length ((mk out).map Value.string) rfl (hown.alloc _) ⟨wr.heap.size, 0, none⟩ 1 1 [.string (s.extract f s.size)] rfl rfl (Com.cells_new _ _ _) (by intro u hu; simp at hu; subst hu; rfl) (by unfold maxLen; omega) (by omega) (by simp; omega) ?_; intro v' w4 hown4 hg4 _)
      go_ret
      have ev : (mk out).map Value.string ++ [Value.string (s.extract f s.size)] = (mk (Ht.split [13, 10] s.data.toList)).map Value.string := by
        rw [HY.out]; exact mk_snoc out EX.out
      have hsl : (mk out).length + 1 = (mk (Ht.split [13, 10] s.data.toList)).length := by rw [HY.out]; simp
      rw [ev, hsl] at hown4
      obtain ⟨A, cA, rfl, hcA, hsA⟩ := Com.strs_of_own hown4
      have hml2 : (mk (Ht.split [13, 10] s.data.toList)).length = (Ht.split [13, 10] s.data.toList).length := List.length_map _
      rw [hml2] at hcA ⊢
      exact ⟨⟨A, cA, rfl, hcA, hsA⟩, (hb.alloc hsz _).grown hg4 (by simp; omega) (fun j hj => (hown.lt j hj).1)⟩
end Go.Proofs.YtnhjbcjeeilicaaGreatDoor.HtBD
