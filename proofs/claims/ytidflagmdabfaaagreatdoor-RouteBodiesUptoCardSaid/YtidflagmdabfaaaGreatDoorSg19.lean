/-
  The walks of package http's Field and Count. The walk of package sha's Unhex. What a request says of its signing: plainly, as the code asks it.
-/
import Derived.Test.YtidflagmdabfaaaGreatDoorSg09
import Derived.Test.YtidflagmdabfaaaGreatDoorSg16
import Derived.Test.YtidflagmdabfaaaGreatDoorSg18
import Derived.IntWalk
namespace Go.Proofs.YtidflagmdabfaaaGreatDoor.HtF
open Go.RowKit Go.Proofs.YtidflagmdabfaaaGreatDoor Go.Proofs.YtidflagmdabfaaaGreatDoor.Ht Go.Proofs.YtidflagmdabfaaaGreatDoor.HtW

theorem get_drop {fs : List Fld} {k : Nat} {q : Fld} (n : List UInt8) (h : fs[k]? = some q) : get (fs.drop k) n = if q.1 = n then some q.2 else get (fs.drop (k + 1)) n := by
  obtain ⟨hk, rfl⟩ := List.getElem?_eq_some_iff.1 h
  rw [List.drop_eq_getElem_cons hk]
  unfold Ht.get
  rw [List.find?_cons]
  by_cases e : fs[k].1 = n
  · simp [e]
  · have : (fs[k].1 == n) = false := by simpa using e
    rw [this, if_neg e]
theorem cnt_take {fs : List Fld} {k : Nat} {q : Fld} (n : List UInt8) (h : fs[k]? = some q) : cnt (fs.take (k + 1)) n = cnt (fs.take k) n + (if (q.1 == n) = true then 1 else 0) := by
  unfold cnt
  rw [List.take_add_one, h, List.filter_append, List.length_append]
  cases e : (q.1 == n) <;> simp [e]
theorem cnt_le (fs : List Fld) (n : List UInt8) : cnt fs n ≤ fs.length := List.length_filter_le _ _

set_option maxHeartbeats 4000000 in
set_option maxRecDepth 100000 in
theorem fieldOf (m t : Value) (b : Value) {a : Option Addr} {fs : List Fld} (n : List UInt8) (c : Nat) (w : World) (hp : Fs w a fs) (hl : fs.length ≤ 9223372036854775807) :
    Calls Tryz.prog 136 #[.agg #[m, t, .slice a fs.length c, b], .string ⟨n.toArray⟩] w fun e w' => e = .returned (.tuple #[.string ⟨((get fs n).getD []).toArray⟩, .bool (get fs n).isSome]) ∧ Below w.heap.size w w' := by
  have HP := Lib.hid hp; clear hp
  go_enter Tryz.func136, Tryz.ntmps136
  go_wp2_with fail
  go_loopg [11] fs.length (fun g v11 wr => ∃ k : Nat, k + g = fs.length ∧ v11 = .int .i64 k ∧ Hid (get fs n = get (fs.drop k) n) ∧ Below w.heap.size w wr)
  case atStart => exact ⟨0, by simp, rfl, by unfold Hid; rfl, (Below.refl _ w).alloc (Nat.le_refl _) _⟩
  case round =>
    obtain ⟨k, hkg, rfl, HN, hb⟩ := hrel
    have HG := Lib.hid hkg; clear hkg
    have HBB := Lib.hid hb
    by_cases hlt : k < fs.length
    · obtain ⟨q, hqk⟩ : ∃ q, fs[k]? = some q := ⟨fs[k], List.getElem?_eq_getElem hlt⟩
      obtain ⟨b, o, rfl, hbb, d0, d1⟩ := Fs.at HP.out hqk
      have c0 := (hb.cell (p := ⟨b, o + k * 2, none⟩) hbb).trans d0
      have c1 := (hb.cell (p := ⟨b, o + k * 2 + 1, none⟩) hbb).trans d1
      have HD := Lib.hid (get_drop n hqk)
      obtain ⟨nm, vl⟩ := q
      simp only at c0 c1
      clear d0 d1 hqk hb
      by_cases e : nm = n
      · have HV := Lib.hid (show get fs n = some vl by rw [HN.out, HD.out, if_pos e])
        subst e
        go_wp2_with fail
        go_ret2
        exact ⟨by rw [HV.out]; rfl, HBB.out.alloc HBB.out.size _⟩
      · have HV : Hid (get fs n = get (fs.drop (k + 1)) n) := by unfold Hid; rw [HN.out, HD.out, if_neg e]
        have t1 : (nm == n) = false := by simpa using e
        clear e
        go_wp2_with fail
        go_roundg (fs.length - (k + 1))
        case rel => exact ⟨k + 1, by omega, by go_num, HV, HBB.out.alloc HBB.out.size _⟩
        case measure => have := HG.out; omega
    · have HV := Lib.hid (show get fs n = none by rw [HN.out, List.drop_eq_nil_of_le (by omega)]; rfl)
      go_wp2_with fail
      go_ret2
      exact ⟨by rw [HV.out]; rfl, hb⟩

set_option maxHeartbeats 4000000 in
set_option maxRecDepth 100000 in
theorem count (m t : Value) (b : Value) {a : Option Addr} {fs : List Fld} (n : List UInt8) (c : Nat) (w : World) (hp : Fs w a fs) (hl : fs.length ≤ 9223372036854775807) :
    Calls Tryz.prog 135 #[.agg #[m, t, .slice a fs.length c, b], .string ⟨n.toArray⟩] w fun e w' => e = .returned (.int .i64 (cnt fs n : Int)) ∧ Below w.heap.size w w' := by
  have HP := Lib.hid hp; clear hp
  go_enter Tryz.func135, Tryz.ntmps135
  go_wp2_with fail
  go_loopg [5, 11] fs.length (fun g v5 v11 wr => ∃ k : Nat, k + g = fs.length ∧ v11 = .int .i64 k ∧ v5 = .int .i64 (cnt (fs.take k) n : Int) ∧ Below w.heap.size w wr)
  case atStart => exact ⟨0, by simp, rfl, rfl, (Below.refl _ w).alloc (Nat.le_refl _) _⟩
  case round =>
    obtain ⟨k, hkg, rfl, rfl, hb⟩ := hrel
    have HG := Lib.hid hkg; clear hkg
    have HBB := Lib.hid hb
    by_cases hlt : k < fs.length
    · obtain ⟨q, hqk⟩ : ∃ q, fs[k]? = some q := ⟨fs[k], List.getElem?_eq_getElem hlt⟩
      obtain ⟨b, o, rfl, hbb, d0, d1⟩ := Fs.at HP.out hqk
      have c0 := (hb.cell (p := ⟨b, o + k * 2, none⟩) hbb).trans d0
      have c1 := (hb.cell (p := ⟨b, o + k * 2 + 1, none⟩) hbb).trans d1
      have HD := Lib.hid (cnt_take n hqk)
      have hcl := cnt_le (fs.take k) n
      rw [List.length_take] at hcl
      obtain ⟨nm, vl⟩ := q
      simp only at c0 c1
      clear d0 d1 hqk hb
      generalize cnt (fs.take k) n = m at *
      cases t1 : (nm == n)
      · have HV := Lib.hid (show cnt (fs.take (k + 1)) n = m by rw [HD.out]; simp [t1])
        go_wp2_with fail
        go_roundg (fs.length - (k + 1))
        case rel => exact ⟨k + 1, by omega, by go_num, by rw [HV.out], HBB.out.alloc HBB.out.size _⟩
        case measure => have := HG.out; omega
      · have HV := Lib.hid (show cnt (fs.take (k + 1)) n = m + 1 by rw [HD.out]; simp [t1])
        go_wp2_with fail
        go_roundg (fs.length - (k + 1))
        case rel => exact ⟨k + 1, by omega, by go_num, by rw [HV.out]; go_num, HBB.out.alloc HBB.out.size _⟩
        case measure => have := HG.out; omega
    · have HV := Lib.hid (show cnt (fs.take k) n = cnt fs n by rw [List.take_of_length_le (by omega)])
      rw [HV.out]
      go_wp2_with fail
      go_ret
      exact ⟨rfl, hb⟩
end Go.Proofs.YtidflagmdabfaaaGreatDoor.HtF
namespace Go.Proofs.YtidflagmdabfaaaGreatDoor.Unhex
open Go.RowKit Go.Proofs.YtidflagmdabfaaaGreatDoor Go.Proofs.YtidflagmdabfaaaGreatDoor.HtW Go.Proofs.YtidflagmdabfaaaGreatDoor.App

def ix (c : UInt8) : Int := Lib.indexByte Nm.hxd c
theorem indexB (c : UInt8) (w : World) (n : Nat) : Calls Tryz.prog 164 #[.string ⟨#[48, 49, 50, 51, 52, 53, 54, 55, 56, 57, 97, 98, 99, 100, 101, 102]⟩, .int .u8 (c.toNat : Int)] (w.drewN n) fun e w'' => e = .returned (.int .i64 (ix c)) ∧ ∃ m, w'' = w.drewN m := by
  refine (Tryz.strings_IndexByte ⟨#[48, 49, 50, 51, 52, 53, 54, 55, 56, 57, 97, 98, 99, 100, 101, 102]⟩ _ (w.drewN n)).mono ?_
  rintro e w' ⟨rfl, rfl⟩
  refine ⟨?_, n, rfl⟩
  unfold ix
  simp [Nm.hxd]
theorem isX_ix (c : UInt8) : Nm.isX c = decide (0 ≤ ix c) := Nm.isX_eq c
theorem append_any {ops : Array Oper} {rest : List Oper} {o : Oper} {a : Act} {Q : Exit → Act → World → Prop} (w : World) (hg : o.guard = none) (s x : Operand) (hop : o.op = Op.call { callee := Callee.builtin Builtin.append, args := #[s, x], argTypes := #[23, 23] })
    (base : Nat) (l : List UInt8) {z : Int} (hz : 0 ≤ z ∧ z < 256) {v : Value} (hown : w.ownsRow base 5 1 v l.length (Lib.byteCells l)) (hbase : base ≤ w.heap.size) (hlen : l.length + 1 ≤ 140737488355328)
    (hs : a.eval s = v) (hx : a.eval x = .slice (some ⟨w.heap.size, 0, none⟩) 1 1)
    (hK : ∀ ar cr w' n (b : UInt8), n = (l ++ [b]).length → w'.ownsRow base 5 1 (.slice ar n cr) (l ++ [b]).length (Lib.byteCells (l ++ [b])) → Below base w w' → wpList Tryz.prog ops Q rest (a.put o.dst (.slice ar n cr)) w') :
    wpList Tryz.prog ops Q (o :: rest) a (w.alloc (.cells #[.int .u8 z] 5)) := by
  refine append_one w hg s x hop base l (UInt8.ofNat z.toNat) (by rw [UInt8.toNat_ofNat']; omega) hown hbase hlen hs hx ?_
  intro ar cr w' n hn h1 h2
  exact hK ar cr w' n _ hn h1 h2
theorem ret2 {v : Value} {a b : Bool} (h : a = b) : Ending.returned (.tuple #[v, .bool a]) = .returned (.tuple #[v, .bool b]) := by rw [h]

set_option maxHeartbeats 4000000 in
set_option maxRecDepth 100000 in
theorem unhexW (s : ByteArray) (w : World) (hs : s.size ≤ 1099511627776) :
    Calls Tryz.prog 139 #[.string s] w fun e w' => (∃ v, e = .returned (.tuple #[v, .bool (Nm.isHex s.data.toList)])) ∧ Below w.heap.size w w' := by
  have hrem : Int.tmod (s.size : Int) 2 = ((s.size % 2 : Nat) : Int) := by
    rw [Int.tmod_eq_emod_of_nonneg (by omega)]
    rfl
  go_enter Tryz.func139, Tryz.ntmps139
  by_cases hodd : s.size % 2 = 1
  · rw [hodd] at hrem
    have hm2 : (s.size : Int) % 2 = 1 := by omega
    have HN := Lib.hid (show Nm.isHex s.data.toList = false by
      unfold Nm.isHex
      rw [decide_eq_false (by rw [Com.toList_length]; omega)]
      rfl)
    go_wp2_with fail
    go_ret2
    exact ⟨⟨_, ret2 HN.out.symm⟩, Below.refl _ _⟩
  · have hev : s.size % 2 = 0 := by omega
    rw [hev] at hrem
    have hm2 : (s.size : Int) % 2 = 0 := by omega
    go_wp2_with fail
    clear hrem hm2
    go_loopg [4, 5] (s.size / 2) (fun g v4 v5 wr => ∃ (k : Nat) (D : List UInt8), k + g = s.size / 2 ∧ v5 = .int .i64 ((2 * k : Nat) : Int) ∧ D.length = k ∧ Hid (wr.ownsRow w.heap.size 5 1 v4 D.length (Lib.byteCells D)) ∧ Hid ((s.data.toList.take (2 * k)).all Nm.isX = true) ∧ Hid (Below w.heap.size w wr))
    case atStart => exact ⟨0, [], by omega, rfl, rfl, ⟨rfl, .inl ⟨rfl, rfl⟩⟩, rfl, Below.refl _ _⟩
    case round =>
      obtain ⟨k, D, hkg, rfl, hDl, HO, HA, HU⟩ := hrel
      have HG := Lib.hid hkg
      have hz := HU.out.size
      by_cases hlt : k < s.size / 2
      · obtain ⟨p, hp⟩ : ∃ p, p = 2 * k := ⟨_, rfl⟩
        have hp1 : p < s.size := by omega
        have hp2 : p + 1 < s.size := by omega
        have ht1 := Com.take_succ s p hp1
        have ht2 := Com.take_succ s (p + 1) hp2
        have hA' : (s.data.toList.take p).all Nm.isX = true := by rw [hp]; exact HA.out
        have HT := Lib.hid (show (s.data.toList.take (2 * (k + 1))).all Nm.isX = (Nm.isX s[p] && Nm.isX s[p + 1]) by
          rw [show 2 * (k + 1) = p + 1 + 1 by omega, ht2, ht1, List.all_append, List.all_append, hA']
          simp)
        have HF := Lib.hid (show (Nm.isX s[p] && Nm.isX s[p + 1]) = false → Nm.isHex s.data.toList = false from fun h => by
          unfold Nm.isHex
          rw [Bool.and_eq_false_iff]
          right
          rw [← List.take_append_drop (2 * (k + 1)) s.data.toList, List.all_append, HT.out, h, Bool.false_and])
        have HP := Lib.hid hp
        rw [← hp]
        have y0 : (0 : Int) ≤ (p : Int) := by omega
        have y1 : (p : Int) < (s.size : Int) := by omega
        have y2 : (p : Int) + 1 < (s.size : Int) := by omega
        have y3 : (0 : Int) ≤ (p : Int) + 1 := by omega
        have hwp : IntKind.i64.wrap ((p : Int) + 1) = (p : Int) + 1 := IntWalk.i64_in _ ⟨by omega, by omega⟩
        have u1 : ((p : Int) + 1).toNat = p + 1 := by omega
        have u2 : (0 ≤ (p : Int) + 1 ∧ (p : Int) + 1 < (s.size : Int)) = True := eq_true ⟨y3, y2⟩
        have hx := isX_ix s[p]
        have hy := isX_ix s[p + 1]
        clear hkg hp ht1 ht2
        go_wp2_with fail
        go_quiet (first | (go_at_call 164; exact indexB _ _ _))
        clear hwp
        obtain ⟨w6, hw6⟩ : ∃ w6, w6 = wr.drewN nq := ⟨_, rfl⟩
        have HO6 := Lib.hid (show w6.ownsRow w.heap.size 5 1 u4 D.length (Lib.byteCells D) by rw [hw6]; exact HO.out)
        have HU6 := Lib.hid (show Below w.heap.size w w6 by rw [hw6]; exact below_drewN HU.out nq)
        rw [← hw6]
        have hz6 := HU6.out.size
        clear hw6 HO HU hz
        have HX := Lib.hid hx
        have HY := Lib.hid hy
        clear hx hy
        by_cases hx0 : 0 ≤ ix s[p]
        · by_cases hy0 : 0 ≤ ix s[p + 1]
          · have HQ := Lib.hid (show (Nm.isX s[p] && Nm.isX s[p + 1]) = true by rw [HX.out, HY.out, decide_eq_true hx0, decide_eq_true hy0]; rfl)
            go_wp2_with (at_builtin; refine append_any w6 rfl (.tmp 33) (.tmp 39) rfl w.heap.size D ?_ HO6.out hz6 (by omega) rfl rfl ?_; rotate_left; intro ar cr w7 n b hn ho7 hb7)
            · have hn' : n = k + 1 := by rw [hn, List.length_append, hDl]; rfl
              rw [hn'] at ho7
              go_roundg (s.size / 2 - (k + 1))
              case measure => have := HG.out; omega
              case rel => exact ⟨k + 1, D ++ [b], by have := HG.out; omega, by have := HP.out; go_num, by rw [List.length_append, hDl]; rfl, ho7, by rw [HT.out]; exact HQ.out, HU6.out.trans hb7⟩
            · exact ⟨Int.emod_nonneg _ (by decide), Int.emod_lt_of_pos _ (by decide)⟩
          · have hno := HF.out (by rw [HX.out, HY.out, decide_eq_false hy0, Bool.and_false])
            have b1 : decide (ix s[p + 1] < 0) = true := decide_eq_true (by omega)
            have b2 : decide (ix s[p] < 0) = false := decide_eq_false (by omega)
            go_wp2_with fail
            go_ret2
            exact ⟨⟨_, by first | rfl | exact ret2 hno.symm⟩, HU6.out⟩
        · have hno := HF.out (by rw [HX.out, HY.out, decide_eq_false hx0, Bool.false_and])
          have b1 : decide (ix s[p] < 0) = true := decide_eq_true (by omega)
          go_wp2_with fail
          go_ret2
          exact ⟨⟨_, by first | rfl | exact ret2 hno.symm⟩, HU6.out⟩
      · have hk2 : 2 * k = s.size := by omega
        have HY := Lib.hid (show Nm.isHex s.data.toList = true by
          have h1 := HA.out
          rw [Com.take_all s _ hk2] at h1
          unfold Nm.isHex
          rw [h1, Com.toList_length, decide_eq_true hev]
          rfl)
        rw [hk2]
        clear hkg hk2
        go_wp2_with fail
        go_ret2
        exact ⟨⟨_, ret2 HY.out.symm⟩, HU.out⟩
end Go.Proofs.YtidflagmdabfaaaGreatDoor.Unhex
namespace Go.Proofs.YtidflagmdabfaaaGreatDoor.SgE
open Go.RowKit Go.Proofs.YtidflagmdabfaaaGreatDoor Go.Proofs.YtidflagmdabfaaaGreatDoor.HtW Go.Proofs.YtidflagmdabfaaaGreatDoor.HtC Go.Proofs.YtidflagmdabfaaaGreatDoor.Ato

abbrev lead : List UInt8 := [66, 79, 76, 76, 65, 82, 68, 49, 32]
def D (fs : List Sg.Fld) : List UInt8 := (Ht.get fs Sg.xdate).getD []
def A (fs : List Sg.Fld) : List UInt8 := (Ht.get fs Sg.auth).getD []
def C (fs : List Sg.Fld) : List UInt8 × List UInt8 × Bool := Lib.cut (Lib.trimPrefix (A fs) lead) [58]
def okP (a : List UInt8) : Bool := Lib.hasPrefix a lead
theorem prefix_take (a : List UInt8) : Lib.hasPrefix a lead = true ↔ a.take 9 = Sg.scheme ++ [32] := by
  unfold Lib.hasPrefix
  rw [List.isPrefixOf_iff_prefix, List.prefix_iff_eq_take]
  exact ⟨fun h => h.symm, fun h => h.symm⟩
theorem parts_if (a : List UInt8) : Sg.parts a = if Lib.hasPrefix a lead = true ∧ (Lib.cut (Lib.trimPrefix a lead) [58]).2.2 = true ∧ Sg.goodName (Lib.cut (Lib.trimPrefix a lead) [58]).1 = true ∧ (Lib.cut (Lib.trimPrefix a lead) [58]).2.1.length = 64 ∧ Nm.isHex (Lib.cut (Lib.trimPrefix a lead) [58]).2.1 = true then some ((Lib.cut (Lib.trimPrefix a lead) [58]).1, (Lib.cut (Lib.trimPrefix a lead) [58]).2.1) else none := by
  unfold Sg.parts
  by_cases h : Lib.hasPrefix a lead = true
  · rw [if_pos ((prefix_take a).1 h)]
    have e : Lib.trimPrefix a lead = a.drop 9 := by unfold Lib.trimPrefix; rw [if_pos h]; rfl
    rw [e]
    simp [h]
  · rw [if_neg (fun e => h ((prefix_take a).2 e)), if_neg (fun e => h e.1)]
theorem claimed_if (fs : List Sg.Fld) : Sg.claimed fs = if ((Ht.cnt fs Sg.xdate = 1 ∧ Ht.cnt fs Sg.auth = 1) ∧ okA (D fs) = true ∧ Lib.itoa (vA (D fs)) = D fs ∧ Sg.goodDate (vA (D fs)) = true) ∧ Lib.hasPrefix (A fs) lead = true ∧ (C fs).2.2 = true ∧ Sg.goodName (C fs).1 = true ∧ (C fs).2.1.length = 64 ∧ Nm.isHex (C fs).2.1 = true then some ((vA (D fs)).toNat, (C fs).1, (C fs).2.1) else none := by
  unfold Sg.claimed
  by_cases h : Ht.cnt fs Sg.xdate = 1 ∧ Ht.cnt fs Sg.auth = 1
  · rw [if_pos h]
    have e1 : (Ht.get fs Sg.xdate).bind Nm.numOf = Nm.numOf (D fs) := by
      unfold D
      cases Ht.get fs Sg.xdate with
      | none => rfl
      | some d => rfl
    have e2 : (Ht.get fs Sg.auth).bind Sg.parts = Sg.parts (A fs) := by
      unfold A
      cases Ht.get fs Sg.auth with
      | none => rfl
      | some d => rfl
    rw [e1, e2, numOf_claim, parts_if]
    unfold C
    by_cases h1 : okA (D fs) = true ∧ Lib.itoa (vA (D fs)) = D fs ∧ Sg.goodDate (vA (D fs)) = true
    · rw [if_pos h1]
      by_cases h2 : Lib.hasPrefix (A fs) lead = true ∧ (Lib.cut (Lib.trimPrefix (A fs) lead) [58]).2.2 = true ∧ Sg.goodName (Lib.cut (Lib.trimPrefix (A fs) lead) [58]).1 = true ∧ (Lib.cut (Lib.trimPrefix (A fs) lead) [58]).2.1.length = 64 ∧ Nm.isHex (Lib.cut (Lib.trimPrefix (A fs) lead) [58]).2.1 = true
      · rw [if_pos h2, if_pos ⟨⟨h, h1⟩, h2⟩]
      · rw [if_neg h2, if_neg (fun e => h2 e.2)]
    · rw [if_neg h1]
      exact (if_neg (fun e => h1 e.1.2)).symm
  · rw [if_neg h, if_neg (fun e => h e.1.1)]
theorem trim_len (a : List UInt8) : (Lib.trimPrefix a lead).length ≤ a.length := by
  unfold Lib.trimPrefix
  split
  · rw [List.length_drop]; omega
  · exact Nat.le_refl _
theorem cut_len (s p : List UInt8) : (Lib.cut s p).1.length ≤ s.length ∧ (Lib.cut s p).2.1.length ≤ s.length := by
  unfold Lib.cut
  split
  · simp; omega
  · simp
theorem get_len {fs : List Sg.Fld} {b : Nat} (h : ∀ q ∈ fs, q.2.length ≤ b) (n : List UInt8) : ((Ht.get fs n).getD []).length ≤ b := by
  unfold Ht.get
  cases e : fs.find? fun f => f.1 == n with
  | none => exact Nat.zero_le _
  | some q => exact h q (List.mem_of_find?_eq_some e)
end Go.Proofs.YtidflagmdabfaaaGreatDoor.SgE
