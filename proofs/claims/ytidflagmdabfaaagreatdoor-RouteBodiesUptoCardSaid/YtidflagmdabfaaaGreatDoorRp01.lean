/-
  The walks of the documents' Decimal and Signed. The walk of package bollardref21's fields. The walk of bollardnum's Apart (what XNum holds of it, without the http texts). The walks of bollardnum's Bytes and Kept, and of SameResponse (as in XNum, XNumK, XHtBL, without what those lean on besides).
-/
import Derived.Test.YtidflagmdabfaaaGreatDoorSg01
import Derived.Test.YtidflagmdabfaaaGreatDoorSg04
import Derived.Test.YtidflagmdabfaaaGreatDoorSg05
import Derived.Test.YtidflagmdabfaaaGreatDoorSg07
import Derived.Test.YtidflagmdabfaaaGreatDoorSg24
import Derived.Test.YtidflagmdabfaaaGreatDoorRo02
import Derived.WalkKit
import Derived.WalkSpells
import Derived.WalkLawsBesides
import Derived.WalkSmall
import Derived.Outline
import Derived.Deep.LoopGhost
import Derived.Lib.Hide
import Derived.Test.YtidflagmdabfaaaGreatDoorProg
import Derived.Laws.OwnMore
import Derived.Laws.BitsAllLaws
import Derived.IntWalk
import Derived.Deep.RegionHeld3
namespace Go.Proofs.YtidflagmdabfaaaGreatDoor.DecW
open Go.RowKit Go.Proofs.YtidflagmdabfaaaGreatDoor

/-- the digits that stand ahead of those that are written -/
def ahead (u : Nat) : List UInt8 := if u = 0 then [] else Lib.decDigits u
theorem ahead_step (u : Nat) (l : List UInt8) (h : u ≠ 0) : ahead (u / 10) ++ (UInt8.ofNat (48 + u % 10) :: l) = ahead u ++ l := by
  unfold ahead
  rw [if_neg h]
  conv => rhs; rw [Lib.decDigits]
  by_cases h2 : u < 10
  · rw [dif_pos h2, if_pos (by omega), show u % 10 = u by omega]
    rfl
  · rw [dif_neg h2, if_neg (by omega)]
    simp
theorem dec_first (n : Nat) : ahead (n / 10) ++ [UInt8.ofNat (48 + n % 10)] = Lib.decDigits n := by
  by_cases h : n = 0
  · subst h
    rw [Lib.decDigits, dif_pos (by omega)]
    rfl
  · have := ahead_step n [] h
    rw [List.append_nil] at this
    rw [this]
    unfold ahead
    rw [if_neg h]

theorem one (wr : World) (u : Nat) : ∃ d : UInt8, Hid (d = UInt8.ofNat (48 + u % 10)) ∧ (convert 23 9 (.slice (some ⟨wr.heap.size, 0, none⟩) 1 1)).run Tryz.prog (wr.alloc (.cells #[.int .u8 (48 + (u : Int) % 10)] 5)) = .ok (.string ⟨[d].toArray⟩) (wr.alloc (.cells #[.int .u8 (48 + (u : Int) % 10)] 5)) := by
  have h := Com.one_byte (P := Tryz.prog) wr 23 9 5 Tryz.underlying23 Tryz.underlying5 Tryz.underlying9 (48 + u % 10) (by omega)
  rw [show (48 + (u : Int) % 10) = ((48 + u % 10 : Nat) : Int) by omega]
  exact ⟨_, rfl, h⟩
theorem len_of {u m : Nat} {l : List UInt8} (h : ahead u ++ l = Lib.decDigits m) (hm : m ≤ 9223372036854775808) : l.length ≤ 20 := by
  have h1 := congrArg List.length h
  have h2 := Dec.dec_len 19 m (by have : (9223372036854775808 : Nat) < 10 ^ 20 := by decide
                                  omega)
  rw [List.length_append] at h1
  omega

set_option maxHeartbeats 1000000 in
set_option maxRecDepth 100000 in
theorem decimal (n : Nat) (hn : n ≤ 9223372036854775807) (w : World) :
    Calls Tryz.prog 58 #[.int .i64 n] w fun e w' => e = .returned (.string ⟨(Lib.decDigits n).toArray⟩) ∧ Below w.heap.size w w' := by
  go_enter Tryz.func58, Tryz.ntmps58
  go_wp2
  go_loopg [0, 3] (n + 1) (fun g t s wr => ∃ (u : Nat) (l : List UInt8), t = .int .i64 u ∧ s = .string ⟨l.toArray⟩ ∧ u ≤ 9223372036854775807 ∧ Below w.heap.size w wr ∧ ((l = [] ∧ u = n ∧ g = n + 1) ∨ (l ≠ [] ∧ u = g ∧ Hid (ahead u ++ l = Lib.decDigits n))))
  case atStart => exact ⟨n, [], rfl, rfl, hn, Below.refl _ _, .inl ⟨rfl, rfl, rfl⟩⟩
  case round =>
    obtain ⟨u, l, rfl, rfl, hu, hb, h⟩ := hrel
    have hsz := hb.size
    obtain ⟨d, HX, conv⟩ := one wr u
    rcases h with ⟨rfl, rfl, rfl⟩ | ⟨hl, rfl, H⟩
    · have HD := Lib.hid (dec_first u)
      rw [← HX.out] at HD
      go_wp2
      go_roundg (u / 10)
      case measure => omega
      case rel =>
        exact ⟨u / 10, [d], by go_num, Com.cat rfl, by omega, hb.alloc hsz _, .inr ⟨by simp, rfl, HD⟩⟩
    · have he : l.isEmpty = false := by cases l with
        | nil => exact absurd rfl hl
        | cons _ _ => rfl
      have hll := len_of H.out (by omega)
      clear hl
      by_cases h0 : u = 0
      · subst h0
        go_wp2
        go_ret
        exact ⟨Com.str_eq rfl (by rw [← H.out]; rfl), hb⟩
      · have HD := Lib.hid ((ahead_step u l h0).trans H.out)
        rw [← HX.out] at HD
        clear H
        go_wp2
        go_roundg (u / 10)
        case measure => omega
        case rel =>
          exact ⟨u / 10, d :: l, by go_num, Com.cat rfl, by omega, hb.alloc hsz _, .inr ⟨by simp, rfl, HD⟩⟩

set_option maxHeartbeats 1000000 in
set_option maxRecDepth 100000 in
theorem signed (n : Int) (h0 : -9223372036854775808 ≤ n) (h1 : n ≤ 9223372036854775807) (w : World) :
    Calls Tryz.prog 160 #[.int .i64 n] w fun e w' => e = .returned (.string ⟨(Lib.itoa n).toArray⟩) ∧ Below w.heap.size w w' := by
  by_cases hn : 0 ≤ n
  · obtain ⟨m, rfl⟩ : ∃ m : Nat, n = m := ⟨n.toNat, by omega⟩
    have HI := Lib.hid (show Lib.itoa (m : Int) = Lib.decDigits m by unfold Lib.itoa; rw [if_neg (by omega)]; rfl)
    have hm : m ≤ 9223372036854775807 := by omega
    clear h0 h1 hn
    go_enter Tryz.func160, Tryz.ntmps160
    go_wp2_with fail
    refine (decimal m hm w).mono ?_
    rintro e w1 ⟨rfl, b1⟩
    go_wp2
    go_ret
    exact ⟨Com.str_eq rfl HI.out.symm, b1⟩
  · obtain ⟨m, rfl⟩ : ∃ m : Nat, n = -(m : Int) := ⟨n.natAbs, by omega⟩
    have hm0 : m ≠ 0 := by omega
    have hm : m ≤ 9223372036854775808 := by omega
    have HI := Lib.hid (show Lib.itoa (-(m : Int)) = 45 :: Lib.decDigits m by unfold Lib.itoa; rw [if_pos (by omega), Int.natAbs_neg, Int.natAbs_natCast])
    clear h0 h1
    go_enter Tryz.func160, Tryz.ntmps160
    go_wp2
    go_loopg [0, 3] m (fun g t s wr => ∃ (l : List UInt8), t = .int .i64 (-(g : Int)) ∧ s = .string ⟨l.toArray⟩ ∧ g ≤ m ∧ Below w.heap.size w wr ∧ Hid (ahead g ++ l = Lib.decDigits m))
    case atStart => exact ⟨[], rfl, rfl, Nat.le_refl _, Below.refl _ _, (show Hid _ by unfold Hid ahead; rw [if_neg hm0, List.append_nil])⟩
    case round =>
      obtain ⟨l, rfl, rfl, hu, hb, H⟩ := hrel
      have hsz := hb.size
      obtain ⟨d, HX, conv⟩ := one wr gk
      have hll := len_of H.out hm
      by_cases h0 : gk = 0
      · subst h0
        go_wp2
        go_ret
        exact ⟨Com.str_eq rfl (by rw [HI.out, ← H.out]; rfl), hb⟩
      · have HD := Lib.hid ((ahead_step gk l h0).trans H.out)
        rw [← HX.out] at HD
        have hne : (-(gk : Int) != 0) = true := by simp only [bne_iff_ne, ne_eq]; omega
        clear H
        go_wp2
        go_roundg (gk / 10)
        case measure => omega
        case rel =>
          exact ⟨d :: l, by go_num, Com.cat rfl, by omega, hb.alloc hsz _, HD⟩
end Go.Proofs.YtidflagmdabfaaaGreatDoor.DecW
namespace Go.Proofs.YtidflagmdabfaaaGreatDoor.RtL
open Go.RowKit Go.Proofs.YtidflagmdabfaaaGreatDoor Go.Proofs.YtidflagmdabfaaaGreatDoor.HtW Go.Proofs.YtidflagmdabfaaaGreatDoor.RtA Go.Proofs.YtidflagmdabfaaaGreatDoor.RtG

theorem dec (n : Int) (h0 : 0 ≤ n) (h1 : n ≤ 9223372036854775807) (w : World) :
    Calls Tryz.prog 58 #[.int .i64 n] w fun e w' => e = .returned (.string ⟨(Lib.itoa n).toArray⟩) ∧ Below w.heap.size w w' := by
  obtain ⟨m, rfl⟩ : ∃ m : Nat, n = m := ⟨n.toNat, by omega⟩
  exact (DecW.decimal m (by omega) w).mono fun e w' h => h

set_option maxHeartbeats 4000000 in
set_option maxRecDepth 100000 in
theorem fields (kv _sv _pv : ByteArray) (sz tm : Int) (et : List UInt8) (pa : Option Addr) (pl pc : Nat) (w : World) (t0 : 0 ≤ tm) (t1 : tm ≤ 9223372036854775807) :
    Calls Tryz.prog 57 #[.agg #[.string kv, .int .i64 sz, .string ⟨et.toArray⟩, .int .i64 tm, .slice pa pl pc]] w fun e w' => ∃ a, e = .returned (.slice a 2 2) ∧ w'.ownsRow w.heap.size 91 2 (.slice a 2 2) 2 (fcells (ofs et tm)) ∧ Below w.heap.size w w' := by
  have hb0 := (Below.refl w.heap.size w).alloc (Nat.le_refl _) (.cells #[.string kv, .int .i64 sz, .string ⟨et.toArray⟩, .int .i64 tm, .slice pa pl pc] 54)
  have hO : Ob w.heap.size (w.alloc (.cells #[.string kv, .int .i64 sz, .string ⟨et.toArray⟩, .int .i64 tm, .slice pa pl pc] 54)) _ _ _ _ _ := heap_alloc_new w _
  have hz : w.heap.size < (w.alloc (.cells #[.string kv, .int .i64 sz, .string ⟨et.toArray⟩, .int .i64 tm, .slice pa pl pc] 54)).heap.size := by simp
  go_enter Tryz.func57, Tryz.ntmps57
  go_upto_region 1 with fail
  generalize w.alloc _ = w1 at *
  obtain ⟨N, hN⟩ : ∃ N, N = w.heap.size := ⟨_, rfl⟩
  rw [← hN] at hO hb0 hz ⊢
  have HN := Lib.hid hN
  clear hN
  obtain ⟨x0, x1, x2, x3, x4⟩ := hO.cells
  have HB := Lib.hid hb0
  clear hb0 hO x0 x1 x4
  have KI := Lib.hid (show ∀ W, ((W.cell? ⟨N, 2, none⟩ = some (.string ⟨et.toArray⟩) ∧ W.cell? ⟨N, 3, none⟩ = some (.int .i64 tm)) ∧ Below w1.heap.size w1 W) → Calls Tryz.prog 58 #[.int .i64 tm] W fun e w' => e = .returned (.string ⟨(Lib.itoa tm).toArray⟩) ∧ ((w'.cell? ⟨N, 2, none⟩ = some (.string ⟨et.toArray⟩) ∧ w'.cell? ⟨N, 3, none⟩ = some (.int .i64 tm)) ∧ Below w1.heap.size w1 w') from fun W hW => (dec tm t0 t1 W).mono fun e w' ⟨h1, h2⟩ =>
    ⟨h1, ⟨(h2.cell (World.block_lt_of_cell? _ _ hW.1.1)).trans hW.1.1, (h2.cell (World.block_lt_of_cell? _ _ hW.1.2)).trans hW.1.2⟩, hW.2.trans (h2.mono hW.2.size)⟩)
  go_region_held3 (fun W => (W.cell? ⟨N, 2, none⟩ = some (.string ⟨et.toArray⟩) ∧ W.cell? ⟨N, 3, none⟩ = some (.int .i64 tm)) ∧ Below w1.heap.size w1 W)
    (first | exact ⟨⟨x2, x3⟩, (Below.refl _ _).drew⟩ | assumption | exact ⟨⟨(((Below.refl _ _).alloc (Nat.le_refl _) _).cell (World.block_lt_of_cell? _ _ hS2.1.1)).trans hS2.1.1, (((Below.refl _ _).alloc (Nat.le_refl _) _).cell (World.block_lt_of_cell? _ _ hS2.1.2)).trans hS2.1.2⟩, hS2.2.alloc hS2.2.size _⟩ | go_keep)
    (first
      | (go_at_call 58; refine (KI.out _ (by assumption)).mono ?_; rintro e w2 ⟨rfl, hS2⟩))
  all_goals
    go_wp2_with fail
    go_ret
    refine ⟨_, rfl, ?_, ?_⟩
    · rw [← HN.out]
      exact own_down (four_own w2 nEtag et nTime (Lib.itoa tm)) (by have := hS2.2.size; omega)
    · rw [← HN.out]
      exact (HB.out.trans (hS2.2.mono (by omega))).alloc (by have := hS2.2.size; omega) _
end Go.Proofs.YtidflagmdabfaaaGreatDoor.RtL
namespace Go.Proofs.YtidflagmdabfaaaGreatDoor.NumA
open Go.RowKit Go.Proofs.YtidflagmdabfaaaGreatDoor Go.Proofs.YtidflagmdabfaaaGreatDoor.Ht Go.Proofs.YtidflagmdabfaaaGreatDoor.HtW Go.Proofs.YtidflagmdabfaaaGreatDoor.HtX

theorem made (n : Nat) (h : n ≤ 140737488351232) : ∃ C : Array Value, C.size = n + 6 ∧ ∀ W : World, (Instr.makeSlice 23 (.int .i64 0) (.int .i64 ((n : Int) + 6))).run Tryz.prog W = .ok (.slice (some ⟨W.heap.size, 0, none⟩) 0 (n + 6)) (W.alloc (.cells C 5)) := by
  obtain ⟨i0, hi, hz0, hz1, hz2⟩ := info_parts infoByte
  refine ⟨madeCells (Value.int .u8 0).cells ((n + 6) * i0.size), by rw [size_madeCells, hz1, Nat.mul_one], fun W => ?_⟩
  have h := run_make (P := Tryz.prog) W 23 5 i0 (.int .u8 0) Tryz.underlying23 hi hz0 .i64 .i64 0 ((n : Int) + 6) (by omega) (by omega) (by rw [hz2]; omega) (by omega)
  have e : ((n : Int) + 6).toNat = n + 6 := by omega
  rw [e] at h
  exact h
abbrev markCells : Array Value := #[.int .u8 201, .int .u8 202, .int .u8 203, .int .u8 204, .int .u8 205, .int .u8 206]
def marks : List UInt8 := [201, 202, 203, 204, 205, 206]
theorem own_some {w : World} {base n : Nat} {a : Option Addr} {c : Nat} {l : List UInt8} (h : w.ownsRow base 5 1 (.slice a n c) l.length (Lib.byteCells l)) (hl : 0 < l.length) : ∃ g, a = some ⟨g, 0, none⟩ ∧ n = l.length ∧ l.length ≤ c := by
  rcases h.2 with ⟨_, h0⟩ | ⟨g, cap, cur, hv, _, _, hn, _⟩
  · omega
  · cases hv
    exact ⟨g, rfl, rfl, hn⟩
theorem marks_len : marks.length = 6 := rfl
theorem pos_marks {l : List UInt8} : 0 < (l ++ marks).length := by
  have := marks_len
  rw [List.length_append]
  omega
theorem marks_bs (w : World) : Bs (w.alloc (.cells markCells 5)) (some ⟨w.heap.size, 0, none⟩) marks 6 := by
  refine ⟨by decide, (fun h => by cases h), .inr ⟨w.heap.size, 0, rfl, by simp, fun j x hj => ?_⟩⟩
  have e : markCells = (marks.map (fun x => Value.int .u8 (x.toNat : Int))).toArray := by kernel_rfl
  rw [Lib.cell_of_heap (heap_alloc_new w _), Nat.zero_add, e]
  rw [List.getElem?_toArray, List.getElem?_map, hj]
  rfl
theorem own_prefix {w : World} {base n g c : Nat} {l r : List UInt8} (h : w.ownsRow base 5 1 (.slice (some ⟨g, 0, none⟩) n c) (l ++ r).length (Lib.byteCells (l ++ r))) : w.ownsRow base 5 1 (.slice (some ⟨g, 0, none⟩) l.length c) l.length (Lib.byteCells l) := by
  have hcl : (Lib.byteCells l).length = l.length := by simp [Lib.byteCells]
  rcases h.2 with ⟨h', _⟩ | ⟨g', cap, cur, h', hb, hg, hn, hm, hcs, htk⟩
  · simp at h'
  · cases h'
    rw [List.length_append] at hn htk
    refine ⟨by rw [hcl, Nat.mul_one], .inr ⟨g, c, cur, rfl, hb, hg, by omega, hm, hcs, ?_⟩⟩
    have h2 := congrArg (List.take l.length) htk
    rw [List.take_take, byteCells_append, List.take_left' hcl, Nat.mul_one, Nat.min_eq_left (by omega)] at h2
    rw [Nat.mul_one]
    exact h2
theorem xor_byte (x : UInt8) : bits .xor .u8 (x.toNat : Int) 85 = (((x ^^^ 85 : UInt8)).toNat : Int) := by
  have h := u8_xor_nat x.toNat 85 (UInt8.toNat_lt x) (by decide)
  rw [UInt8.toNat_xor]
  exact h
theorem bs_grown {w w' : World} {a : Option Addr} {l : List UInt8} {c : Nat} (h : Bs w a l c) {row : Option Nat} (hg : w.grownBy w' row) (hne : ∀ p, a = some p → some p.block ≠ row) : Bs w' a l c := by
  refine ⟨h.1, h.2.1, h.2.2.imp id fun ⟨b, o, h1, h3, h4⟩ => ⟨b, o, h1, Nat.lt_of_lt_of_le h3 hg.size, fun j x hx => ?_⟩⟩
  have := hg.block b h3 (hne ⟨b, o, none⟩ h1)
  exact (World.cell?_of_block (a := ⟨b, o + j, none⟩) this).trans (h4 j x hx)
/-- what the law's marking leaves -/
structure Mk (base : Nat) (row : Option Nat) (w w' : World) (aA : Option Addr) (l : List UInt8) (cA : Nat) (ab : Option Addr) (n c : Nat) : Prop where
  own : ∃ l2 : List UInt8, l2.length = n ∧ w'.ownsRow base 5 1 (.slice ab n c) l2.length (Lib.byteCells l2)
  bs : Bs w' aA l cA
  below : Below base w w'
  gr : w.grownBy w' row
theorem Mk.cell {base : Nat} {row : Option Nat} {w w' : World} {aA : Option Addr} {l : List UInt8} {cA : Nat} {ab : Option Addr} {n c : Nat} (h : Mk base row w w' aA l cA ab n c) {i : Nat} (hi : i < n) :
    ∃ (g : Nat) (x : UInt8), ab = some ⟨g, 0, none⟩ ∧ base ≤ g ∧ g < w'.heap.size ∧ w'.cell? ⟨g, i, none⟩ = some (.int .u8 (x.toNat : Int)) ∧ w'.frozen? ⟨g, i, none⟩ = false := by
  obtain ⟨l2, hl, ho⟩ := h.own
  obtain ⟨g, rfl, -, -⟩ := own_some ho (by omega)
  have hlt := ho.lt g rfl
  subst hl
  have hc := ho.cellAt i (by rw [Nat.mul_one]; exact hi)
  have hx : (Lib.byteCells l2)[i]? = some (.int .u8 (l2[i].toNat : Int)) := by simp [Lib.byteCells, List.getElem?_eq_getElem hi]
  exact ⟨g, l2[i], rfl, hlt.1, hlt.2, hc.trans hx, ho.frozenAt i⟩
theorem Mk.put {base : Nat} {row : Option Nat} {w w' : World} {aA : Option Addr} {l : List UInt8} {cA g n c : Nat} (h : Mk base row w w' aA l cA (some ⟨g, 0, none⟩) n c) (hrow : row = some g ∨ w.heap.size ≤ g) (hd : l ≠ [] → ∀ p, aA = some p → p.block ≠ g) (i : Nat) (y : UInt8) :
    Mk base row w (w'.setCell ⟨g, i, none⟩ (.int .u8 (y.toNat : Int))) aA l cA (some ⟨g, 0, none⟩) n c := by
  obtain ⟨l2, hl, ho⟩ := h.own
  subst hl
  obtain ⟨h1, h2⟩ := ho.stored i (.int .u8 (y.toNat : Int))
  have e : (Lib.byteCells l2).set i (.int .u8 (y.toNat : Int)) = Lib.byteCells (l2.set i y) := by simp [Lib.byteCells, List.map_set]
  rw [e] at h1
  refine ⟨⟨l2.set i y, by simp, by rw [List.length_set]; exact h1⟩, ?_, ?_, ?_⟩
  · by_cases h0 : l = []
    · exact ⟨h.bs.1, h.bs.2.1, .inl h0⟩
    · exact bs_grown h.bs h2 (fun p hp e => hd h0 p hp (by simpa using e))
  · exact h.below.setCell (p := ⟨g, i, none⟩) (ho.lt g rfl).1 _
  · refine ⟨h2.os.trans h.gr.os, h2.tape.trans h.gr.tape, h2.output.trans h.gr.output, Nat.le_trans h.gr.size h2.size, fun k hk hr => ?_⟩
    refine (h2.block k (Nat.lt_of_lt_of_le hk h.gr.size) ?_).trans (h.gr.block k hk hr)
    intro e
    simp only [Option.some.injEq] at e
    rcases hrow with hrow | hrow
    · exact hr (by rw [e, hrow])
    · omega
theorem grown_trans {w w1 w2 : World} {row : Option Nat} (h : w.grownBy w1 row) (h2 : w1.grownBy w2 row) : w.grownBy w2 row :=
  ⟨h2.os.trans h.os, h2.tape.trans h.tape, h2.output.trans h.output, Nat.le_trans h.size h2.size, fun k hk hr => (h2.block k (Nat.lt_of_lt_of_le hk h.size) hr).trans (h.block k hk hr)⟩
def sevens : List UInt8 := [7, 7, 7, 7, 7, 7, 7, 7]
abbrev sevenCells : Array Value := #[.int .u8 7, .int .u8 7, .int .u8 7, .int .u8 7, .int .u8 7, .int .u8 7, .int .u8 7, .int .u8 7]
theorem sevens_bs (w : World) : Bs (w.alloc (.cells sevenCells 5)) (some ⟨w.heap.size, 0, none⟩) sevens 8 := by
  refine ⟨by decide, (fun h => by cases h), .inr ⟨w.heap.size, 0, rfl, by simp, fun j x hj => ?_⟩⟩
  have e : sevenCells = (sevens.map (fun x => Value.int .u8 (x.toNat : Int))).toArray := by kernel_rfl
  rw [Lib.cell_of_heap (heap_alloc_new w _), Nat.zero_add, e]
  rw [List.getElem?_toArray, List.getElem?_map, hj]
  rfl

theorem grown_none {w w' : World} (h : w.grownBy w' none) (row : Option Nat) : w.grownBy w' row := ⟨h.os, h.tape, h.output, h.size, fun k hk _ => h.block k hk (by simp)⟩
theorem bs_of_row {w : World} {base n c : Nat} {a : Option Addr} {l : List UInt8} (h : w.ownsRow base 5 1 (.slice a n c) l.length (Lib.byteCells l)) : Bs w a l c := (bs_own h).1
/-- append: in the same block, or in a new one -/
theorem run_append_split (w : World) (base : Nat) (ab : Option Addr) (c : Nat) (l r : List UInt8) (hown : w.ownsRow base 5 1 (.slice ab l.length c) l.length (Lib.byteCells l)) (p : Addr) (cR : Nat) (hB : Bs w (some p) r cR) (hbase : base ≤ w.heap.size) (hlen : l.length + r.length ≤ 140737488355328) (ty : TypeId) :
    ∃ ar cr w', (Builtin.append_ #[23, 23] ty #[.slice ab l.length c, .slice (some p) r.length cR]).run Tryz.prog w = .ok (.slice ar (l.length + r.length) cr) w' ∧ w'.ownsRow base 5 1 (.slice ar (l.length + r.length) cr) (l ++ r).length (Lib.byteCells (l ++ r)) ∧ w.grownBy w' (Value.slice ab l.length c).ownBlock ∧ Below base w w' ∧
      ((∃ g, ab = some ⟨g, 0, none⟩ ∧ ar = some ⟨g, 0, none⟩) ∨ ∀ q, ar = some q → w.heap.size ≤ q.block) := by
  obtain ⟨i0, hi, hz0, hz1, hz2⟩ := info_parts infoByte
  have hown2 := hown
  rcases hown.2 with ⟨hv, h0⟩ | ⟨g, cap, cur, hv, hbg, hg, hnc, hm, hcs, htk⟩
  · have hl0 : l = [] := List.eq_nil_of_length_eq_zero h0
    subst hl0
    cases hv
    obtain ⟨v', w', h1, h2, h3, _⟩ := run_append_own (P := Tryz.prog) w w.heap.size 23 ty 5 i0 _ 1 1 Tryz.underlying23 hi hz0 hz1 hz2 rfl (by decide) (.slice none 0 0) 0 [] (World.ownsRow_nil _ _ _ _) p r.length cR (Lib.byteCells r) (by rw [HtX.byteCells_length, Nat.mul_one]) hB.cells (byteCells_one r) (by unfold maxLen; simp at hlen; omega) (by simp at hlen; omega) (Nat.le_refl _)
    rw [Nat.zero_add, List.nil_append] at h2
    obtain ⟨a, c, rfl, hb⟩ := bs_of_own h2
    refine ⟨a, c, w', by rw [List.length_nil, Nat.zero_add]; exact h1, ?_, h3, (Below.refl base w).grown h3 hbase (fun k hk => by cases hk), Or.inr (fun q hq => by subst hq; exact (h2.lt q.block rfl).1)⟩
    rw [List.length_nil, Nat.zero_add, List.nil_append]
    refine ⟨h2.1, h2.2.imp id ?_⟩
    rintro ⟨g, cap, cur, q1, q2, q3⟩
    exact ⟨g, cap, cur, q1, Nat.le_trans hbase q2, q3⟩
  · cases hv
    by_cases hroom : l.length + r.length ≤ c
    · obtain ⟨w', h1, h2, h3⟩ := run_append_fits (P := Tryz.prog) w base 23 ty 5 i0 1 Tryz.underlying23 hi hz1 g l.length c (Lib.byteCells l) hown2 p r.length cR (Lib.byteCells r) (by rw [HtX.byteCells_length, Nat.mul_one]) hB.cells (byteCells_one r) hroom
      refine ⟨some ⟨g, 0, none⟩, c, w', h1, by rw [List.length_append, byteCells_append]; exact h2, h3, (Below.refl base w).grown h3 hbase (fun k hk => by cases hk; exact hbg), Or.inl ⟨g, rfl, rfl⟩⟩
    · have hlB := bs_of_row hown2
      obtain ⟨v', w', hrun, r1, r2⟩ := run_append_arg_grows (P := Tryz.prog) w 23 ty 5 i0 _ 1 1 Tryz.underlying23 hi hz0 hz1 hz2 rfl (by decide) ⟨g, 0, none⟩ l.length c (Lib.byteCells l) (by simp [Lib.byteCells]) hlB.cells p r.length cR (Lib.byteCells r) (by rw [HtX.byteCells_length, Nat.mul_one]) hB.cells (by omega) (by unfold maxLen; omega) (by omega)
      have r1' : w'.ownsRow w.heap.size 5 1 v' (l ++ r).length (Lib.byteCells (l ++ r)) := by
        rw [List.length_append, byteCells_append]
        exact r1
      obtain ⟨a, c', rfl, hb⟩ := bs_of_own r1'
      rw [List.length_append] at hrun
      refine ⟨a, c', w', hrun, ?_, grown_none r2 _, (Below.refl base w).grown r2 hbase (fun k hk => by cases hk), Or.inr (fun q hq => by subst hq; exact (r1'.lt q.block rfl).1)⟩
      rw [← List.length_append]
      refine ⟨r1'.1, r1'.2.imp id ?_⟩
      rintro ⟨g, cap, cur, q1, q2, q3⟩
      exact ⟨g, cap, cur, q1, Nat.le_trans hbase q2, q3⟩
theorem wpList_append_split {ops : Array Oper} {rest : List Oper} {o : Oper} {a : Act} {Q : Exit → Act → World → Prop} (w : World) (hg : o.guard = none) (s x : Operand) (hop : o.op = Op.call { callee := Callee.builtin Builtin.append, args := #[s, x], argTypes := #[23, 23] })
    (base : Nat) (ab : Option Addr) (n c : Nat) (l r : List UInt8) (hn : n = l.length) (hown : w.ownsRow base 5 1 (.slice ab n c) l.length (Lib.byteCells l)) (p : Addr) (cR : Nat) (hB : Bs w (some p) r cR) (hbase : base ≤ w.heap.size) (hlen : n + r.length ≤ 140737488355328)
    (hs : a.eval s = .slice ab n c) (hx : a.eval x = .slice (some p) r.length cR)
    (hK : ∀ ar cr w', w'.ownsRow base 5 1 (.slice ar (n + r.length) cr) (l ++ r).length (Lib.byteCells (l ++ r)) → w.grownBy w' (Value.slice ab n c).ownBlock → Below base w w' → ((∃ g, ab = some ⟨g, 0, none⟩ ∧ ar = some ⟨g, 0, none⟩) ∨ ∀ q, ar = some q → w.heap.size ≤ q.block) → wpList Tryz.prog ops Q rest (a.put o.dst (.slice ar (n + r.length) cr)) w') :
    wpList Tryz.prog ops Q (o :: rest) a w := by
  subst hn
  refine wpList_plain hg fun K hK' => ?_
  obtain ⟨ar, cr, w', hrun, h1, h2, h3, h4⟩ := run_append_split w base ab c l r hown p cR hB hbase hlen o.type
  unfold Oper.wp
  simp [execOp, hop, resolve, invoke, builtin, hs, hx, hrun, Result.andThen]
  exact hK' _ _ (hK ar cr w' h1 h2 h3 h4)

set_option maxHeartbeats 1000000 in
set_option maxRecDepth 100000 in
theorem apart (l l' : List UInt8) {aA ab : Option Addr} {cA c : Nat} (base : Nat) (w : World) (hA : Bs w aA l cA) (hb : w.ownsRow base 5 1 (.slice ab l'.length c) l'.length (Lib.byteCells l')) (hd : ∀ p q, aA = some p → ab = some q → p.block ≠ q.block) (hl : l'.length ≤ 140737488351232) (hbase : base ≤ w.heap.size) :
    Calls Tryz.prog 27 #[.slice aA l.length cA, .slice ab l'.length c] w fun e w' => e = .returned (.bool true) ∧ Below base w w' ∧ w.grownBy w' (Value.slice ab l'.length c).ownBlock ∧ Bs w' aA l cA := by
  have hk := to_string hA
  have HM0 := Lib.hid (show Mk base (Value.slice ab l'.length c).ownBlock w w aA l cA ab l'.length c from ⟨⟨l', rfl, hb⟩, hA, Below.refl _ _, ⟨rfl, rfl, rfl, Nat.le_refl _, fun _ _ _ => rfl⟩⟩)
  have HD := Lib.hid hd
  clear hd hb
  go_enter Tryz.func27, Tryz.ntmps27
  go_wp2_with fail
  clear hk
  go_loopg [13] l'.length (fun g iv wr => ∃ k : Nat, k + g = l'.length ∧ iv = .int .i64 k ∧ Hid (Mk base (Value.slice ab l'.length c).ownBlock w wr aA l cA ab l'.length c))
  case atStart => exact ⟨0, by omega, rfl, HM0⟩
  case round =>
    obtain ⟨k, hkg, rfl, HM⟩ := hrel
    have HG := Lib.hid hkg
    have hk : k ≤ l'.length := by omega
    clear hkg
    by_cases hlt : k < l'.length
    · obtain ⟨g, x, rfl, hg1, hg2, c0, f0⟩ := HM.out.cell hlt
      have hx := xor_byte x
      have HN := Lib.hid (HM.out.put (.inl rfl) (fun _ p hp => HD.out p _ hp rfl) k (x ^^^ 85))
      go_wp2_with fail
      go_roundg (l'.length - (k + 1))
      case measure => have := HG.out; omega
      case rel => exact ⟨k + 1, by omega, by go_num, HN⟩
    · have hk2 := to_string HM.out.bs
      obtain ⟨l2, hl2, ho2⟩ := HM.out.own
      have HO2 := Lib.hid (show (wr.alloc (.cells sevenCells 5)).ownsRow base 5 1 (.slice ab l'.length c) l2.length (Lib.byteCells l2) from ho2.alloc (.cells sevenCells 5))
      have HS := Lib.hid (sevens_bs wr)
      have hal := (Below.refl wr.heap.size wr).alloc (Nat.le_refl _) (.cells sevenCells 5)
      have HBA := Lib.hid (HM.out.bs.below hal)
      have HB2 := Lib.hid (HM.out.below.alloc (Nat.le_trans hbase HM.out.below.size) (.cells sevenCells 5))
      have C1 : base ≤ (wr.alloc (.cells sevenCells 5)).heap.size := Nat.le_trans hbase HB2.out.size
      have C3 : l'.length + sevens.length ≤ 140737488355328 := by have : sevens.length = 8 := rfl; omega
      have hpl : ∀ p, aA = some p → l ≠ [] → p.block < wr.heap.size := fun p hp hn => by
        rcases HM.out.bs.2.2 with h | ⟨b, o, h1, h2, _⟩
        · exact absurd h hn
        · rw [hp] at h1; cases h1; exact h2
      have HPL := Lib.hid hpl
      have HL2 := Lib.hid hl2
      clear ho2 hal hpl hl2
      go_wp2_with (at_builtin; refine wpList_append_split _ rfl (.tmp 29) (.tmp 30) rfl base ab l'.length c l2 sevens HL2.out.symm HO2.out ⟨wr.heap.size, 0, none⟩ 8 HS.out C1 C3 rfl rfl ?_)
      intro ar cr w5 o5 g5 b5 hs5
      have hm5 : Mk base (Value.slice ab l'.length c).ownBlock w w5 aA l cA ar (l'.length + sevens.length) cr := by
        refine ⟨⟨l2 ++ sevens, by rw [List.length_append, HL2.out], by rw [List.length_append]; exact o5⟩, bs_grown HBA.out g5 (fun p hp e => ?_), HB2.out.trans b5, grown_trans (grown_trans HM.out.gr (World.grownBy_alloc _ _ _)) g5⟩
        cases ab with
        | none => simp [Value.ownBlock] at e
        | some q =>
          simp only [Value.ownBlock, Option.some.injEq] at e
          exact HD.out p q hp rfl e
      have HM5 := Lib.hid hm5
      have HK5 := Lib.hid (to_string hm5.bs)
      have HD5 := Lib.hid (show l ≠ [] → ∀ p q, aA = some p → ar = some q → p.block ≠ q.block from fun hn p q hp hq => by
        rcases hs5 with ⟨g, h1, h2⟩ | h
        · rw [h2] at hq
          cases hq
          exact HD.out p ⟨g, 0, none⟩ hp h1
        · have h1 := h q hq
          have h2 := HPL.out p hp hn
          omega)
      have HW5 := Lib.hid (show ∀ g, ar = some ⟨g, 0, none⟩ → (Value.slice ab l'.length c).ownBlock = some g ∨ w.heap.size ≤ g from fun g hg => by
        rcases hs5 with ⟨g', h1, h2⟩ | h
        · rw [h2] at hg
          cases hg
          exact .inl (by rw [h1]; rfl)
        · have h1 : _ ≤ g := h _ hg
          have h2 := HM.out.below.size
          right
          omega)
      clear o5 g5 b5 hs5 hm5 HBA HO2 HS hk2 HM HB2
      obtain ⟨N, hN⟩ : ∃ N, l'.length + sevens.length = N := ⟨_, rfl⟩
      have hN2 : l'.length ≤ N ∧ N ≤ 140737488355328 := by have : sevens.length = 8 := rfl; omega
      obtain ⟨hN3, hN4⟩ := hN2
      rw [hN] at HM5 ⊢
      clear hN C3 C1
      go_wp2_with fail
      go_loopg [8] (N - l'.length) (fun g iv wr => ∃ k : Nat, k + g = N ∧ iv = .int .i64 k ∧ Hid (Mk base (Value.slice ab l'.length c).ownBlock w wr aA l cA ar N cr))
      case atStart => exact ⟨l'.length, by omega, rfl, HM5⟩
      case round =>
        obtain ⟨k, hkg, rfl, HM⟩ := hrel
        have HG := Lib.hid hkg
        have hk : k ≤ N := by omega
        clear hkg
        by_cases hlt : k < N
        · obtain ⟨g, x, rfl, hg1, hg2, c0, f0⟩ := HM.out.cell hlt
          have hx := xor_byte x
          have HN := Lib.hid (HM.out.put (HW5.out g rfl) (fun h p hp => HD5.out h p _ hp rfl) k (x ^^^ 85))
          go_wp2_with fail
          go_roundg (N - (k + 1))
          case measure => have := HG.out; omega
          case rel => exact ⟨k + 1, by omega, by go_num, HN⟩
        · have hk2 := to_string HM.out.bs
          go_wp2_with fail
          go_ret
          exact ⟨rfl, HM.out.below, HM.out.gr, HM.out.bs⟩

end Go.Proofs.YtidflagmdabfaaaGreatDoor.NumA
namespace Go.Proofs.YtidflagmdabfaaaGreatDoor.RtP
open Go.RowKit Go.Proofs.YtidflagmdabfaaaGreatDoor Go.Proofs.YtidflagmdabfaaaGreatDoor.Ht Go.Proofs.YtidflagmdabfaaaGreatDoor.HtW Go.Proofs.YtidflagmdabfaaaGreatDoor.HtX Go.Proofs.YtidflagmdabfaaaGreatDoor.NumA Go.Proofs.YtidflagmdabfaaaGreatDoor.App

set_option maxHeartbeats 1000000 in
set_option maxRecDepth 100000 in
theorem bytes (l : List UInt8) {a : Option Addr} {c : Nat} (w : World) (hb : Bs w a l c) (hl : l.length ≤ 140737488351232) :
    Calls Tryz.prog 16 #[.slice a l.length c] w fun e w' => (∃ g c', e = .returned (.slice (some ⟨g, 0, none⟩) l.length c') ∧ w'.ownsRow w.heap.size 5 1 (.slice (some ⟨g, 0, none⟩) (l ++ marks).length c') (l ++ marks).length (Lib.byteCells (l ++ marks))) ∧ Below w.heap.size w w' := by
  have HB := Lib.hid hb; clear hb
  go_enter Tryz.func16, Tryz.ntmps16
  obtain ⟨C, hC, hmk⟩ := made l.length (by omega)
  have e6 : IntKind.i64.wrap ((l.length : Int) + 6) = (l.length : Int) + 6 := IntWalk.i64_in _ ⟨by omega, by omega⟩
  have own0 : (w.alloc (.cells C 5)).ownsRow w.heap.size 5 1 (.slice (some ⟨w.heap.size, 0, none⟩) 0 (l.length + 6)) ([] : List UInt8).length (Lib.byteCells []) :=
    ⟨rfl, .inr ⟨w.heap.size, l.length + 6, C, rfl, Nat.le_refl _, heap_alloc_new _ _, Nat.zero_le _, by unfold maxLen; omega, by rw [hC, Nat.mul_one], by simp [Lib.byteCells]⟩⟩
  have OWN0 := Lib.hid own0
  have hb0 : Below w.heap.size w (w.alloc (.cells C 5)) := (Below.refl _ _).alloc (Nat.le_refl _) _
  have HB0 := Lib.hid hb0
  clear own0 hb0 hC
  have C1 : w.heap.size ≤ (w.alloc (.cells C 5)).heap.size := by simp
  have C2 : ([] : List UInt8).length + l.length ≤ 140737488355328 := by simp; omega
  have C3 : l.length + marks.length ≤ 140737488355328 := by rw [marks_len]; omega
  go_wp2_with (first
    | (at_builtin; refine append_more _ rfl (.tmp 7) (.tmp 8) rfl w.heap.size [] l OWN0.out a c (HB.out.below HB0.out) C1 C2 rfl rfl ?_; rintro a1 c1 w1 n1 rfl o1 b1; rw [List.nil_append] at o1; have hB1 := HB0.out.trans b1; have HO1 := Lib.hid (o1.alloc (.cells markCells 5)); have HB1 := Lib.hid (hB1.alloc hB1.size (.cells markCells 5)); have HM := Lib.hid (marks_bs w1); clear hB1 o1 b1)
    | (at_builtin; refine append_more _ rfl (.tmp 9) (.tmp 10) rfl w.heap.size l marks HO1.out (some ⟨w1.heap.size, 0, none⟩) 6 HM.out HB1.out.size C3 rfl rfl ?_; rintro a2 c2 w2 n2 rfl o2 b2; obtain ⟨g, rfl, -, hcap⟩ := own_some o2 pos_marks; rw [List.length_append, marks_len] at hcap; have h2 : l.length ≤ c2 := (by omega); have h3 : ¬ c2 = 0 := (by omega); have HO2 := Lib.hid o2; clear o2))
  go_ret
  exact ⟨⟨g, c2, rfl, HO2.out⟩, HB1.out.trans b2⟩
abbrev Conv (w : World) (v : Value) (l : List UInt8) : Prop := (convert 23 9 v).run Tryz.prog w = .ok (.string ⟨l.toArray⟩) w
theorem bs_left {w : World} {a : Option Addr} {l r : List UInt8} {c : Nat} (h : Bs w a (l ++ r) c) : Bs w a l c := by
  have h1 := h.1
  rw [List.length_append] at h1
  refine ⟨by omega, h.2.1, ?_⟩
  rcases h.2.2 with h0 | ⟨b, o, q1, q2, q3⟩
  · exact .inl (List.append_eq_nil_iff.1 h0).1
  · exact .inr ⟨b, o, q1, q2, fun j x hj => q3 j x (by rw [List.getElem?_append_left (List.getElem?_eq_some_iff.1 hj).1]; exact hj)⟩
theorem mark_at : ∀ k, k < 6 → marks[k]? = some (UInt8.ofNat (201 + k)) ∧ (UInt8.ofNat (201 + k)).toNat = 201 + k := by decide

set_option maxHeartbeats 1000000 in
set_option maxRecDepth 100000 in
theorem kept (l : List UInt8) (g c : Nat) {a' : Option Addr} {c' : Nat} (w : World) (h : Bs w (some ⟨g, 0, none⟩) (l ++ marks) c) (h' : Bs w a' l c') (hl : l.length ≤ 140737488351232) :
    Calls Tryz.prog 28 #[.slice (some ⟨g, 0, none⟩) l.length c, .slice a' l.length c'] w fun e w' => e = .returned (.bool true) ∧ Below w.heap.size w w' := by
  have hcap := h.1
  rw [List.length_append, marks_len] at hcap
  have hcell : ∀ k, k < 6 → w.drew.cell? ⟨g, l.length + k, none⟩ = some (.int .u8 (201 + (k : Int))) := by
    intro k hk
    rcases h.2.2 with h0 | ⟨b, o, q1, q2, q3⟩
    · have := congrArg List.length h0
      rw [List.length_append, marks_len, List.length_nil] at this
      omega
    · cases q1
      have := q3 (l.length + k) (UInt8.ofNat (201 + k)) (by rw [List.getElem?_append_right (by omega), show l.length + k - l.length = k by omega]; exact (mark_at k hk).1)
      rw [(mark_at k hk).2, Nat.zero_add] at this
      rw [show w.drew.cell? ⟨g, l.length + k, none⟩ = w.cell? ⟨g, l.length + k, none⟩ from rfl, this]
      rfl
  have HC := Lib.hid hcell; clear hcell
  have k1 := to_string (bs_left h)
  have k2 := to_string h'
  have k1d : Conv w.drew (.slice (some ⟨g, 0, none⟩) l.length c) l := to_string ((bs_left h).below ((Below.refl w.heap.size w).drew))
  have k2d : Conv w.drew (.slice a' l.length c') l := to_string (h'.below ((Below.refl w.heap.size w).drew))
  have z1 : ¬ (c : Int) < (l.length : Int) + 6 := by omega
  have z2 : (l.length : Int) ≤ c := by omega
  have z3 : (0 : Int) ≤ l.length := by omega
  have z4 : ¬ c = 0 := by omega
  have z5 : l.length ≤ c := by omega
  have e6 : IntKind.i64.wrap ((l.length : Int) + 6) = (l.length : Int) + 6 := IntWalk.i64_in _ ⟨by omega, by omega⟩
  have t1 : decide ((c : Int) < (l.length : Int) + 6) = false := decide_eq_false z1
  clear h h'
  go_enter Tryz.func28, Tryz.ntmps28
  go_wp2_with fail
  go_region_held3 (fun W => Conv W (.slice (some ⟨g, 0, none⟩) l.length c) l ∧ Conv W (.slice a' l.length c') l)
    (first | exact ⟨k1d, k2d⟩ | assumption)
    (fail)
  have hb : Below w.heap.size w w.drew := (Below.refl _ _).drew
  have HB := Lib.hid hb
  clear k1 k2 k1d k2d hb
  generalize w.drew = W at *
  go_wp2_with fail
  go_loopg [6] 6 (fun m v wr => ∃ k : Nat, k + m = 6 ∧ v = .int .i64 k ∧ wr = W)
  case atStart => exact ⟨0, by omega, rfl, rfl⟩
  case round =>
    obtain ⟨k, hk, rfl, rfl⟩ := hrel
    have HG := Lib.hid hk
    have hk6 : k ≤ 6 := by omega
    clear hk
    by_cases hlt : k < 6
    · have ck := HC.out k hlt
      have e1 : IntKind.u8.wrap (201 + (k : Int)) = 201 + (k : Int) := by rw [IntKind.wrap_u8']; omega
      have y1 : (l.length : Int) + k < c := by omega
      go_wp2_with fail
      go_roundg (6 - (k + 1))
      case measure => have := HG.out; omega
      case rel => exact ⟨k + 1, by omega, by go_num, rfl⟩
    · go_wp2_with fail
      go_ret
      exact ⟨rfl, HB.out⟩
set_option maxHeartbeats 1000000 in
set_option maxRecDepth 100000 in
theorem sameRes (st : Int) (fs : List Fld) (bd : List UInt8) {a ab a' ab' : Option Addr} (c cb c' cb' : Nat) (w : World) (hf : Fs w a fs) (hb : Bs w ab bd cb) (hf' : Fs w a' fs) (hb' : Bs w ab' bd cb') (hfl : fs.length ≤ 9223372036854775807) :
    Calls Tryz.prog 25 #[.agg #[.int .i64 st, .slice a fs.length c, .slice ab bd.length cb], .agg #[.int .i64 st, .slice a' fs.length c', .slice ab' bd.length cb']] w fun e w' => e = .returned (.bool true) ∧ Below w.heap.size w w' := by
  have HF := Lib.hid hf; clear hf
  have HB := Lib.hid hb; clear hb
  have HF' := Lib.hid hf'; clear hf'
  have HB' := Lib.hid hb'; clear hb'
  have hX := ((Below.refl w.heap.size w).alloc (Nat.le_refl _) (.cells #[.int .i64 st, .slice a fs.length c, .slice ab bd.length cb] 56)).alloc (by simp) (.cells #[.int .i64 st, .slice a' fs.length c', .slice ab' bd.length cb'] 56)
  go_enter Tryz.func25, Tryz.ntmps25
  go_wp2_with fail
  refine (HtU.same [] [] [] [] bd bd fs fs c c' cb cb' _ (HF.out.below hX) (HF'.out.below hX) (HB.out.below hX) (HB'.out.below hX) hfl).mono ?_
  rintro e w1 ⟨rfl, hb1⟩
  rw [HtU.eqR_yes]
  go_wp2_with fail
  go_ret
  exact ⟨rfl, hX.trans (hb1.mono hX.size)⟩
end Go.Proofs.YtidflagmdabfaaaGreatDoor.RtP
