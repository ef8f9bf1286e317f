/-
  The walks of package uri's digit and decode, and of strings.Cut at one byte.
-/
import Derived.Test.YtmimkgfkicgfiaaDoorUriPlain
import Derived.Test.YtmimkgfkicgfiaaDoorCom
import Derived.Test.YtmimkgfkicgfiaaDoorShelf
import Derived.WalkKit
import Derived.WalkSpells
import Derived.WalkLawsBesides
import Derived.WalkSmall
import Derived.Outline
import Derived.Deep.LoopGhost
import Derived.Deep.QuietTactic
import Derived.BigQuiet
import Derived.Lib.Hide
namespace Go.Proofs.YtmimkgfkicgfiaaDoor.UriA
open Go.RowKit Go.Proofs.YtmimkgfkicgfiaaDoor

/-- a digit's value, or -1 -/
def dg (c : UInt8) : Int := match Up.hexv c with | some x => x | none => -1
theorem dg_some {c : UInt8} {x : Nat} (h : Up.hexv c = some x) : dg c = x := by simp [dg, h]
theorem dg_none {c : UInt8} (h : Up.hexv c = none) : dg c = -1 := by simp [dg, h]
def digits : List UInt8 := [48, 49, 50, 51, 52, 53, 54, 55, 56, 57, 65, 66, 67, 68, 69, 70]
def up (n : Nat) : Nat := if 97 ≤ n ∧ n ≤ 102 then n - 32 else n
theorem dg_all : ∀ n : Fin 256, Lib.indexByte digits (up n.1).toUInt8 = dg (UInt8.ofNat n.1) := by decide +kernel
theorem dg_eq (c : UInt8) : Lib.indexByte digits (up c.toNat).toUInt8 = dg c := by
  have := dg_all ⟨c.toNat, UInt8.toNat_lt c⟩
  simpa using this

theorem ret_i64 {a b : Int} (h : a = b) : Ending.returned (.int .i64 a) = .returned (.int .i64 b) := by rw [h]
theorem ret_two {a b c d : Value} (h1 : a = c) (h2 : b = d) : Ending.returned (.tuple #[a, b]) = .returned (.tuple #[c, d]) := by rw [h1, h2]

set_option maxHeartbeats 1000000 in
set_option maxRecDepth 100000 in
theorem digit (c : UInt8) (w : World) : Calls Tryd.prog 104 #[.int .u8 (c.toNat : Int)] w fun e w' => e = .returned (.int .i64 (dg c)) ∧ w = w' := by
  have hc := UInt8.toNat_lt c
  have HE := Lib.hid (dg_eq c)
  by_cases h1 : 97 ≤ c.toNat
  · by_cases h2 : c.toNat ≤ 102
    · have hu : up c.toNat = c.toNat - 32 := by simp [up, h1, h2]
      have HU := Lib.hid hu; clear hu
      have HN := Lib.hid (show ((c.toNat : Int) - 32).toNat = c.toNat - 32 by omega)
      go_enter Tryd.func104, Tryd.ntmps104
      go_wp2_with (go_at_call 63; refine (Tryd.strings_IndexByte _ _ _).mono ?_; rintro e w' ⟨rfl, rfl⟩)
      go_ret
      exact ⟨ret_i64 (by rw [← HE.out, HU.out, ← HN.out]; rfl), rfl⟩
    · have hu : up c.toNat = c.toNat := by simp [up, h2]
      have HU := Lib.hid hu; clear hu
      go_enter Tryd.func104, Tryd.ntmps104
      go_wp2_with (go_at_call 63; refine (Tryd.strings_IndexByte _ _ _).mono ?_; rintro e w' ⟨rfl, rfl⟩)
      go_ret
      exact ⟨ret_i64 (by rw [← HE.out, HU.out, show c.toNat.toUInt8 = c by simp]; rfl), rfl⟩
  · have hu : up c.toNat = c.toNat := by simp [up, h1]
    have HU := Lib.hid hu; clear hu
    go_enter Tryd.func104, Tryd.ntmps104
    go_wp2_with (go_at_call 63; refine (Tryd.strings_IndexByte _ _ _).mono ?_; rintro e w' ⟨rfl, rfl⟩)
    go_ret
    exact ⟨ret_i64 (by rw [← HE.out, HU.out, show c.toNat.toUInt8 = c by simp]; rfl), rfl⟩

/-! ### decode -/
theorem or16_all : ∀ x y : Fin 16, bits .or .i64 (((x.1 : Nat) : Int) * 16) ((y.1 : Nat) : Int) = ((16 * x.1 + y.1 : Nat) : Int) := by decide +kernel
theorem or16 {x y : Nat} (hx : x < 16) (hy : y < 16) : bits .or .i64 ((x : Int) * 16) (y : Int) = ((16 * x + y : Nat) : Int) := or16_all ⟨x, hx⟩ ⟨y, hy⟩

theorem infoByte : (Tryd.prog.info? 5).map (fun i => (i.zero, i.size, i.bytes)) = some (some (.int .u8 0), 1, 1) := by kernel_rfl

theorem drop_at (s : ByteArray) (i : Nat) (h : i < s.size) : s.data.toList.drop i = s[i] :: s.data.toList.drop (i + 1) := by
  rw [List.drop_eq_getElem_cons (by rw [Com.toList_length]; exact h)]; rfl
theorem step_out {c : UInt8} {t : List UInt8} (h : c ≠ 37) (h2 : ¬ (32 ≤ c.toNat ∧ c.toNat ≤ 126)) : Up.step (c :: t) = none := by
  simp only [Up.step]
  rw [if_neg h, if_neg (fun ⟨a, b⟩ => h2 ⟨UInt8.le_iff_toNat_le.1 a, UInt8.le_iff_toNat_le.1 b⟩)]
theorem step_in {c : UInt8} {t : List UInt8} (h : c ≠ 37) (h1 : 32 ≤ c.toNat) (h2 : c.toNat ≤ 126) : Up.step (c :: t) = some (c, t) := by
  simp only [Up.step]
  rw [if_neg h, if_pos ⟨UInt8.le_iff_toNat_le.2 h1, UInt8.le_iff_toNat_le.2 h2⟩]
theorem step_short {l : List UInt8} (h : l.length < 2) : Up.step (37 :: l) = none := by
  match l, h with
  | [], _ => rfl
  | [a], _ => rfl
theorem step_bad {a b : UInt8} {r : List UInt8} (h : Up.hexv a = none ∨ Up.hexv b = none) : Up.step (37 :: a :: b :: r) = none := by
  simp only [Up.step, if_true]
  rcases h with h | h
  · rw [h]
  · rw [h]; cases Up.hexv a <;> rfl
theorem step_pct {a b : UInt8} {r : List UInt8} {x y : Nat} (ha : Up.hexv a = some x) (hb : Up.hexv b = some y) : Up.step (37 :: a :: b :: r) = if 32 ≤ 16 * x + y ∧ 16 * x + y ≤ 126 then some (UInt8.ofNat (16 * x + y), r) else none := by
  simp only [Up.step, if_true, ha, hb]

/-- what has come, and what is to come -/
def Sofar (l out r : List UInt8) : Prop := Up.dec l = (Up.dec r).map (out ++ ·)
theorem Sofar.start (l : List UInt8) : Sofar l [] l := by unfold Sofar; simp
theorem Sofar.done {l out : List UInt8} (h : Sofar l out []) : Up.dec l = some out := by unfold Sofar at h; rw [h, Up.dec_nil]; simp
theorem Sofar.next {l out r t : List UInt8} {c : UInt8} (h : Sofar l out r) (hs : Up.step r = some (c, t)) : Sofar l (out ++ [c]) t := by
  unfold Sofar at h ⊢
  rw [h, Up.dec_some hs]
  cases Up.dec t <;> simp
theorem Sofar.stop {l out r : List UInt8} (h : Sofar l out r) (hr : r ≠ []) (hs : Up.step r = none) : Up.dec l = none := by
  unfold Sofar at h
  rw [h, Up.dec_none hr hs]; rfl

/-- what decode answers -/
def ans (o : Option (List UInt8)) : Value := .tuple #[.string ⟨(o.getD []).toArray⟩, .bool o.isSome]

theorem below_drewN {B : Nat} {a w : World} (h : Below B a w) (n : Nat) : Below B a (w.drewN n) := h.trans ⟨rfl, rfl, rfl, Nat.le_refl _, fun _ _ => rfl⟩
theorem addr_add (b off k : Nat) : (⟨b, off, none⟩ : Addr).add k = ⟨b, off + k, none⟩ := by
  unfold Addr.add; split <;> simp_all
theorem bs_own {w : World} {base : Nat} {v : Value} {l : List UInt8} (h : w.ownsRow base 5 1 v l.length (Lib.byteCells l)) :
    ∃ a c, v = .slice a l.length c ∧ ((a = none ∧ l = [] ∧ c = 0) ∨ ∃ g, a = some ⟨g, 0, none⟩ ∧ ∀ (j : Nat) (hj : j < l.length), w.cell? ((⟨g, 0, none⟩ : Addr).add j) = some (.int .u8 (l[j].toNat : Int))) := by
  rcases h.2 with ⟨rfl, h0⟩ | ⟨g, cap, cur, hv, hb, hg, hn, hm, hcs, htk⟩
  · exact ⟨none, 0, by rw [h0], .inl ⟨rfl, List.eq_nil_of_length_eq_zero h0, rfl⟩⟩
  · exact ⟨some ⟨g, 0, none⟩, cap, hv, .inr ⟨g, rfl, fun j hj => h.cells (g := g) (by rw [hv]; rfl) j _ (by simp [Lib.byteCells, List.getElem?_eq_getElem hj])⟩⟩
/-- bytes as a string -/
theorem to_string {w : World} {a : Option Addr} {l : List UInt8} {c : Nat} (h : (a = none ∧ l = [] ∧ c = 0) ∨ ∃ g, a = some ⟨g, 0, none⟩ ∧ ∀ (j : Nat) (hj : j < l.length), w.cell? ((⟨g, 0, none⟩ : Addr).add j) = some (.int .u8 (l[j].toNat : Int))) :
    (convert 61 9 (.slice a l.length c)).run Tryd.prog w = .ok (.string ⟨l.toArray⟩) w := by
  rcases h with ⟨rfl, rfl, rfl⟩ | ⟨g, rfl, h⟩
  · kernel_rfl
  · exact run_convert_bytes_back w 61 9 5 ⟨g, 0, none⟩ c l Tryd.underlying61 Tryd.underlying5 Tryd.underlying9 h

set_option maxHeartbeats 8000000 in
set_option maxRecDepth 100000 in
theorem decode (s : ByteArray) (w : World) (hs : s.size ≤ 70368744177664) :
    Calls Tryd.prog 59 #[.string s] w fun e w' => e = .returned (ans (Up.dec s.data.toList)) ∧ Below w.heap.size w w' := by
  obtain ⟨i0, hi, hz0, hz1, hz2⟩ := info_parts infoByte
  go_enter Tryd.func59, Tryd.ntmps59
  go_wp2_with fail
  go_loopg [4, 5] s.size (fun g v i wr => ∃ (k : Nat) (out : List UInt8), k + g = s.size ∧ i = .int .i64 k ∧ wr.ownsRow w.heap.size 5 1 v out.length (Lib.byteCells out) ∧ Below w.heap.size w wr ∧ Sofar s.data.toList out (s.data.toList.drop k) ∧ out.length ≤ k)
  case atStart => exact ⟨0, [], by omega, rfl, World.ownsRow_nil _ _ _ _, Below.refl _ _, Sofar.start _, Nat.le_refl _⟩
  case round =>
    obtain ⟨k, out, hkg, rfl, hown, hb, hso, hol⟩ := hrel
    have HG := Lib.hid hkg
    have hkx : k ≤ s.size := by omega
    clear hkg
    have HO := Lib.hid hso; clear hso
    by_cases hlt : k < s.size
    · have HD := Lib.hid (drop_at s k hlt)
      by_cases hp : s[k] = 37
      · have t1 : ((s[k].toNat : Int) == 37) = true := by rw [hp]; rfl
        have HP := Lib.hid hp; clear hp
        by_cases hsh : s.size ≤ k + 2
        · go_wp2_with fail
          go_ret2
          have hn : Up.dec s.data.toList = none := by
            refine HO.out.stop (by rw [HD.out]; simp) ?_
            rw [HD.out, HP.out]
            exact step_short (by rw [List.length_drop, Com.toList_length]; omega)
          exact ⟨by rw [hn]; rfl, hb⟩
        · have hk1 : k + 1 < s.size := by omega
          have hk2 : k + 2 < s.size := by omega
          have HD2 := Lib.hid (show s.data.toList.drop k = 37 :: s[k + 1] :: s[k + 2] :: s.data.toList.drop (k + 3) by
            rw [HD.out, HP.out, drop_at s (k + 1) hk1, drop_at s (k + 2) hk2])
          clear HD
          cases hx : Up.hexv s[k + 1] with
          | none =>
            have hdx : dg s[k + 1] = -1 := dg_none hx
            have HX := Lib.hid hx; clear hx
            go_wp2_with (go_at_call 104; refine (digit s[k + 1] _).mono ?_; rintro e w' ⟨rfl, rfl⟩)
            go_ret2
            have hn : Up.dec s.data.toList = none := by
              refine HO.out.stop (by rw [HD2.out]; simp) ?_
              rw [HD2.out]
              exact step_bad (.inl HX.out)
            exact ⟨by rw [hn]; rfl, hb⟩
          | some x =>
            have hx16 := Up.hexv_lt hx
            have hdx : dg s[k + 1] = (x : Int) := dg_some hx
            have HX := Lib.hid hx; clear hx
            cases hy : Up.hexv s[k + 2] with
            | none =>
              have hdy : dg s[k + 2] = -1 := dg_none hy
              have HY := Lib.hid hy; clear hy
              go_wp2_with (go_at_call 104; refine (digit _ _).mono ?_; rintro e w' ⟨rfl, rfl⟩)
              go_ret2
              have hn : Up.dec s.data.toList = none := by
                refine HO.out.stop (by rw [HD2.out]; simp) ?_
                rw [HD2.out]
                exact step_bad (.inr HY.out)
              exact ⟨by rw [hn]; rfl, hb⟩
            | some y =>
              have hy16 := Up.hexv_lt hy
              have hdy : dg s[k + 2] = (y : Int) := dg_some hy
              have HY := Lib.hid hy; clear hy
              obtain ⟨z, hz⟩ : ∃ z, z = 16 * x + y := ⟨_, rfl⟩
              have hor : bits .or .i64 ((x : Int) * 16) (y : Int) = (z : Int) := by rw [hz]; exact or16 hx16 hy16
              have hzm : (z : Int) % 256 = (z : Int) := by omega
              have hz8 : z < 256 := by omega
              have HZ := Lib.hid hz; clear hz
              have hstep : Up.step (s.data.toList.drop k) = if 32 ≤ z ∧ z ≤ 126 then some (UInt8.ofNat z, s.data.toList.drop (k + 3)) else none := by
                rw [HD2.out, step_pct HX.out HY.out, HZ.out]
              have HS := Lib.hid hstep; clear hstep
              have hne : s.data.toList.drop k ≠ [] := by rw [HD2.out]; simp
              have HNE := Lib.hid hne; clear hne
              by_cases h1 : z < 32
              · go_wp2_with (go_at_call 104; refine (digit _ _).mono ?_; rintro e w' ⟨rfl, rfl⟩)
                go_quiet ((go_at_call 104; exact Calls.quiet_of_same ((digit _ _).mono fun _ _ ⟨h1, h2⟩ => ⟨h1, h2.symm⟩)))
                go_wp2_with fail
                go_ret2
                have hn : Up.dec s.data.toList = none := HO.out.stop HNE.out (by rw [HS.out, if_neg (by omega)])
                exact ⟨by rw [hn]; rfl, below_drewN hb _⟩
              · by_cases h2 : 126 < z
                · go_wp2_with (go_at_call 104; refine (digit _ _).mono ?_; rintro e w' ⟨rfl, rfl⟩)
                  go_quiet ((go_at_call 104; exact Calls.quiet_of_same ((digit _ _).mono fun _ _ ⟨h1, h2⟩ => ⟨h1, h2.symm⟩)))
                  go_wp2_with fail
                  go_ret2
                  have hn : Up.dec s.data.toList = none := HO.out.stop HNE.out (by rw [HS.out, if_neg (by omega)])
                  exact ⟨by rw [hn]; rfl, below_drewN hb _⟩
                · go_wp2_with (go_at_call 104; refine (digit _ _).mono ?_; rintro e w' ⟨rfl, rfl⟩)
                  go_quiet ((go_at_call 104; exact Calls.quiet_of_same ((digit _ _).mono fun _ _ ⟨h1, h2⟩ => ⟨h1, h2.symm⟩)))
                  have hown2 : (wr.drewN nq).ownsRow w.heap.size 5 1 u4 out.length (Lib.byteCells out) := hown
                  have hb2 : Below w.heap.size w (wr.drewN nq) := below_drewN hb _
                  generalize wr.drewN nq = w2 at hown2 hb2 ⊢
                  clear hown hb
                  go_wp2_with (at_builtin; refine wpList_append_own _ rfl _ _ 61 rfl w.heap.size 5 i0 (.int .u8 0) 1 1 Tryd.underlying61 hi hz0 hz1 hz2 rfl (by decide) _ _ _ rfl (hown2.alloc _) ⟨w2.heap.size, 0, none⟩ 1 1 [.int .u8 (z : Int)] rfl rfl (Com.cells_new _ _ _) (by simp [Value.oneCell']) (by unfold maxLen; omega) (by omega) (by have := hb2.size; simp; omega) ?_; intro v' w1 hown' hgrow _)
                  have hown1 : w1.ownsRow w.heap.size 5 1 v' (out ++ [UInt8.ofNat z]).length (Lib.byteCells (out ++ [UInt8.ofNat z])) := by
                    have e : ((UInt8.ofNat z).toNat : Int) = (z : Int) := by simp; omega
                    rw [Lib.byteCells, List.map_append, List.map_cons, List.map_nil, e, List.length_append]
                    exact hown'
                  have hb1 : Below w.heap.size w w1 := (hb2.alloc hb2.size _).grown hgrow (by have := hb2.size; simp; omega) (fun j hj => (hown2.lt j hj).1)
                  have HO1 := Lib.hid hown1; clear hown1 hown'
                  go_roundg (gk - 3)
                  case measure => have := HG.out; omega
                  case rel => exact ⟨k + 3, out ++ [UInt8.ofNat z], by have := HG.out; omega, by go_num, HO1.out, hb1, HO.out.next (by rw [HS.out, if_pos ⟨by omega, by omega⟩]), by simp; omega⟩
      · have t1 := Com.u8_ne hp (n := 37) rfl
        have t2 := Com.u8_bne hp (n := 37) rfl
        by_cases h1 : s[k].toNat < 32
        · go_wp2_with fail
          go_ret2
          have hn : Up.dec s.data.toList = none := by
            refine HO.out.stop (by rw [HD.out]; simp) ?_
            rw [HD.out]
            exact step_out hp (by omega)
          exact ⟨by rw [hn]; rfl, hb⟩
        · by_cases h2 : 126 < s[k].toNat
          · go_wp2_with fail
            go_ret2
            have hn : Up.dec s.data.toList = none := by
              refine HO.out.stop (by rw [HD.out]; simp) ?_
              rw [HD.out]
              exact step_out hp (by omega)
            exact ⟨by rw [hn]; rfl, hb⟩
          · go_wp2_with (at_builtin; refine wpList_append_own _ rfl _ _ 61 rfl w.heap.size 5 i0 (.int .u8 0) 1 1 Tryd.underlying61 hi hz0 hz1 hz2 rfl (by decide) _ _ _ rfl (hown.alloc _) ⟨wr.heap.size, 0, none⟩ 1 1 [.int .u8 (s[k].toNat : Int)] rfl rfl (Com.cells_new _ _ _) (by simp [Value.oneCell']) (by unfold maxLen; omega) (by omega) (by have := hb.size; simp; omega) ?_; intro v' w1 hown' hgrow _)
            have hown1 : w1.ownsRow w.heap.size 5 1 v' (out ++ [s[k]]).length (Lib.byteCells (out ++ [s[k]])) := by simpa [Lib.byteCells] using hown'
            have hb1 : Below w.heap.size w w1 := (hb.alloc hb.size _).grown hgrow (by have := hb.size; simp; omega) (fun j hj => (hown.lt j hj).1)
            have HO1 := Lib.hid hown1; clear hown1 hown'
            go_roundg (gk - 1)
            case measure => have := HG.out; omega
            case rel => exact ⟨k + 1, out ++ [s[k]], by have := HG.out; omega, by go_num, HO1.out, hb1, HO.out.next (by rw [HD.out]; exact step_in hp (by omega) (by omega)), by simp; omega⟩
    · have hks : k = s.size := by omega
      obtain ⟨A, c, rfl, hbs⟩ := bs_own hown
      have kc := to_string hbs
      have HE := Lib.hid (show Up.dec s.data.toList = some out by
        have := HO.out
        rw [List.drop_eq_nil_of_le (by rw [Com.toList_length]; omega)] at this
        exact this.done)
      go_wp2_with fail
      go_ret2
      exact ⟨by rw [HE.out]; rfl, hb⟩
theorem decodeS {s : ByteArray} {o : List UInt8} (h : Up.dec s.data.toList = some o) (w : World) (hs : s.size ≤ 70368744177664) :
    Calls Tryd.prog 59 #[.string s] w fun e w' => e = .returned (.tuple #[.string ⟨o.toArray⟩, .bool true]) ∧ Below w.heap.size w w' :=
  (decode s w hs).mono fun _ _ ⟨h1, h2⟩ => ⟨by rw [h1, h]; rfl, h2⟩
theorem decodeN {s : ByteArray} (h : Up.dec s.data.toList = none) (w : World) (hs : s.size ≤ 70368744177664) :
    Calls Tryd.prog 59 #[.string s] w fun e w' => e = .returned (.tuple #[.string ⟨#[]⟩, .bool false]) ∧ Below w.heap.size w w' :=
  (decode s w hs).mono fun _ _ ⟨h1, h2⟩ => ⟨by rw [h1, h]; rfl, h2⟩
end Go.Proofs.YtmimkgfkicgfiaaDoor.UriA
