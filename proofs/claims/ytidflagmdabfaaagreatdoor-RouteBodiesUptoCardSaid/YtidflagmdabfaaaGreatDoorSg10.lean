/-
  Plain: signed requests, apart from their targets. The walks of package sig's goodDate, goodName and signature. Targets, plainly: what is decoded, cut and split. Of no program. The walks of package uri's digit and decode, and of strings.Cut at one byte.
-/
import Derived.Test.YtidflagmdabfaaaGreatDoorSg01
import Derived.Test.YtidflagmdabfaaaGreatDoorSg03
import Derived.Test.YtidflagmdabfaaaGreatDoorSg07
import Derived.Test.YtidflagmdabfaaaGreatDoorSg08
import Derived.Test.YtidflagmdabfaaaGreatDoorSg09
import Derived.IntWalk
import Derived.Lib.IndexMore
import Derived.WalkKit
import Derived.WalkSpells
import Derived.WalkLawsBesides
import Derived.WalkSmall
import Derived.Outline
import Derived.Deep.LoopGhost
import Derived.Deep.QuietTactic
import Derived.BigQuiet
import Derived.Lib.Hide
namespace Go.Proofs.YtidflagmdabfaaaGreatDoor.Sg
open Go.Proofs.YtidflagmdabfaaaGreatDoor.Nm

abbrev Fld := List UInt8 × List UInt8
def xdate : List UInt8 := [120, 45, 100, 97, 116, 101]
def auth : List UInt8 := [97, 117, 116, 104, 111, 114, 105, 122, 97, 116, 105, 111, 110]
def scheme : List UInt8 := [66, 79, 76, 76, 65, 82, 68, 49]
def lead : List UInt8 := [66, 79, 76, 76, 65, 82, 68]
def s3 : List UInt8 := [115, 51]
inductive Er | uri | req | denied | skew
deriving DecidableEq
def Er.num : Er → Nat
  | .req => 13
  | .uri => 14
  | .denied => 15
  | .skew => 16
def goodDate (z : Int) : Bool := decide (0 ≤ z) && decide (z ≤ 1099511627776)
def goodName (n : List UInt8) : Bool := decide (0 < n.length) && n.all Ht.nmc
/-- a key made of a secret and words -/
def derive (secret : List UInt8) (ws : List (List UInt8)) : List UInt8 := ws.foldl Sha.mac (lead ++ secret)
/-- the signature of a text -/
def sigOf (text secret : List UInt8) (date : Int) : List UInt8 := hex (Sha.mac (derive secret [Lib.itoa date, s3]) text)
inductive Ans (α : Type) | no (e : Er) | ok (x : α)
/-- the other fields -/
def others (fs : List Fld) : List Fld := fs.filter fun f => !(f.1 == xdate) && !(f.1 == auth)
def mark (name hex : List UInt8) : List UInt8 := scheme ++ [32] ++ name ++ [58] ++ hex
def two (date : Int) (name hex : List UInt8) : List Fld := [(xdate, Lib.itoa date), (auth, mark name hex)]
/-- the parts of an authorization -/
def parts (a : List UInt8) : Option (List UInt8 × List UInt8) :=
  if a.take 9 = scheme ++ [32] then
    let r := Lib.cut (a.drop 9) [58]
    if r.2.2 = true ∧ goodName r.1 = true ∧ r.2.1.length = 64 ∧ isHex r.2.1 = true then some (r.1, r.2.1) else none
  else none
/-- what a request says of its signing -/
def claimed (fs : List Fld) : Option (Nat × List UInt8 × List UInt8) :=
  if Ht.cnt fs xdate = 1 ∧ Ht.cnt fs auth = 1 then
    match (Ht.get fs xdate).bind numOf, (Ht.get fs auth).bind parts with
    | some n, some (a, h) => some (n, a, h)
    | _, _ => none
  else none
/-- among the keys -/
def among (x name hex : List UInt8) (n : Nat) (now : Int) : List Fld → Ans (List UInt8)
  | [] => .no .denied
  | k :: r => if k.1 = name then (if sigOf x k.2 n = hex then (if now < n - 100 ∨ n + 100 < now then .no .skew else .ok name) else .no .denied) else among x name hex n now r
end Go.Proofs.YtidflagmdabfaaaGreatDoor.Sg
namespace Go.Proofs.YtidflagmdabfaaaGreatDoor.SgA
open Go.RowKit Go.Proofs.YtidflagmdabfaaaGreatDoor Go.Proofs.YtidflagmdabfaaaGreatDoor.HtW Go.Proofs.YtidflagmdabfaaaGreatDoor.Lf Go.Proofs.YtidflagmdabfaaaGreatDoor.App Go.Proofs.YtidflagmdabfaaaGreatDoor.ShaG Go.Proofs.YtidflagmdabfaaaGreatDoor.Itoa

theorem ret_b {a b : Bool} (h : a = b) : Ending.returned (.bool a) = .returned (.bool b) := by rw [h]
set_option maxRecDepth 100000 in
theorem goodDate (z : Int) (w : World) : Calls Tryz.prog 68 #[.int .i64 z] w fun e w' => e = .returned (.bool (Sg.goodDate z)) ∧ w = w' := by
  have HG := Lib.hid (show Sg.goodDate z = (decide (0 ≤ z) && decide (z ≤ 1099511627776)) from rfl)
  by_cases h0 : 0 ≤ z
  · by_cases h1 : z ≤ 1099511627776
    all_goals
      go_enter Tryz.func68, Tryz.ntmps68
      go_wp2_with fail
      go_ret
      exact ⟨ret_b (by rw [HG.out]; first | (rw [decide_eq_true h0, decide_eq_true h1]; rfl) | (rw [decide_eq_true h0, decide_eq_false (by omega)]; rfl)), rfl⟩
  · go_enter Tryz.func68, Tryz.ntmps68
    go_wp2_with fail
    go_ret
    exact ⟨ret_b (by rw [HG.out, decide_eq_false (by omega)]; rfl), rfl⟩

/-- a letter, in small -/
def low (c : UInt8) : Int := bits .or .u8 (c.toNat : Int) 32
theorem low_eq (c : UInt8) : low c = ((c ||| 32).toNat : Int) := by
  unfold low
  rw [show (32 : Int) = ((32 : Nat) : Int) from rfl, u8_or_nat _ _ (UInt8.toNat_lt c) (by decide), UInt8.toNat_or]
  rfl
theorem nmc_all : ∀ n : Fin 256, Ht.nmc (UInt8.ofNat n.1) = ((decide (97 ≤ (UInt8.ofNat n.1 ||| 32).toNat) && decide ((UInt8.ofNat n.1 ||| 32).toNat ≤ 122)) || (decide (48 ≤ (UInt8.ofNat n.1).toNat) && decide ((UInt8.ofNat n.1).toNat ≤ 57)) || decide ((UInt8.ofNat n.1).toNat = 45)) := by decide +kernel
theorem nmc_eq (c : UInt8) : Ht.nmc c = ((decide (97 ≤ low c) && decide (low c ≤ 122)) || (decide (48 ≤ c.toNat) && decide (c.toNat ≤ 57)) || decide (c.toNat = 45)) := by
  have := nmc_all ⟨c.toNat, UInt8.toNat_lt c⟩
  simp only [UInt8.ofNat_toNat] at this
  rw [this, low_eq]
  congr 2
  congr 1
  · exact decide_eq_decide.2 (by omega)
  · exact decide_eq_decide.2 (by omega)
/-- which way a byte goes -/
theorem ways (c : UInt8) : (97 ≤ low c ∧ low c ≤ 122 ∧ Ht.nmc c = true) ∨ ((low c < 97 ∨ 122 < low c) ∧ 48 ≤ c.toNat ∧ c.toNat ≤ 57 ∧ Ht.nmc c = true) ∨ ((low c < 97 ∨ 122 < low c) ∧ c.toNat = 45 ∧ Ht.nmc c = true) ∨ ((low c < 97 ∨ 122 < low c) ∧ (c.toNat < 48 ∨ 57 < c.toNat) ∧ c.toNat ≠ 45 ∧ Ht.nmc c = false) := by
  have h := nmc_eq c
  by_cases h1 : 97 ≤ low c ∧ low c ≤ 122
  · exact .inl ⟨h1.1, h1.2, by rw [h]; simp [h1]⟩
  · have h1' : low c < 97 ∨ 122 < low c := by omega
    by_cases h2 : 48 ≤ c.toNat ∧ c.toNat ≤ 57
    · exact .inr (.inl ⟨h1', h2.1, h2.2, by rw [h]; simp [h2]⟩)
    · by_cases h3 : c.toNat = 45
      · exact .inr (.inr (.inl ⟨h1', h3, by rw [h]; simp [h3]⟩))
      · refine .inr (.inr (.inr ⟨h1', by omega, h3, ?_⟩))
        rw [h]
        have e1 : (decide (97 ≤ low c) && decide (low c ≤ 122)) = false := by
          rw [Bool.and_eq_false_iff, decide_eq_false_iff_not, decide_eq_false_iff_not]; omega
        have e2 : (decide (48 ≤ c.toNat) && decide (c.toNat ≤ 57)) = false := by
          rw [Bool.and_eq_false_iff, decide_eq_false_iff_not, decide_eq_false_iff_not]; omega
        rw [e1, e2, decide_eq_false h3]
        rfl

set_option maxHeartbeats 2000000 in
set_option maxRecDepth 100000 in
theorem goodName (s : ByteArray) (w : World) (hs : s.size ≤ 4611686018427387904) : Calls Tryz.prog 73 #[.string s] w fun e w' => e = .returned (.bool (Sg.goodName s.data.toList)) ∧ w = w' := by
  go_enter Tryz.func73, Tryz.ntmps73
  go_wp2_with fail
  go_loopg [7] s.size (fun g v7 wr => ∃ k : Nat, k + g = s.size ∧ v7 = .int .i64 k ∧ Hid ((s.data.toList.take k).all Ht.nmc = true) ∧ w = wr)
  case atStart => exact ⟨0, by omega, rfl, rfl, rfl⟩
  case round =>
    obtain ⟨k, hkg, rfl, HA, rfl⟩ := hrel
    have HG := Lib.hid hkg
    by_cases hlt : k < s.size
    · have hts := Com.take_succ s k hlt
      have y0 : (0 : Int) ≤ (k : Int) := by omega
      have y1 : (k : Int) < (s.size : Int) := by omega
      have hy : (s.data.toList.take (k + 1)).all Ht.nmc = Ht.nmc s[k] := by rw [hts, List.all_append, HA.out]; simp
      have HY := Lib.hid hy
      have HM := Lib.hid (show Ht.nmc s[k] = false → Sg.goodName s.data.toList = false from fun h => by
        unfold Sg.goodName
        rw [Bool.and_eq_false_iff]
        right
        rw [h] at hy
        have : s.data.toList = s.data.toList.take (k + 1) ++ s.data.toList.drop (k + 1) := (List.take_append_drop _ _).symm
        rw [this, List.all_append, hy, Bool.false_and])
      clear hkg hts hy
      have hw := ways s[k]
      unfold low at hw
      rcases hw with ⟨a1, a2, a3⟩ | ⟨a1 | a1, a2, a3, a4⟩ | ⟨a1 | a1, a2, a3⟩ | ⟨a1 | a1, a2 | a2, a3, a4⟩
      · go_wp2_with fail
        go_roundg (s.size - (k + 1))
        case measure => have := HG.out; omega
        case rel => exact ⟨k + 1, by have := HG.out; omega, by go_num, by rw [HY.out]; exact a3, rfl⟩
      · go_wp2_with fail
        go_roundg (s.size - (k + 1))
        case measure => have := HG.out; omega
        case rel => exact ⟨k + 1, by have := HG.out; omega, by go_num, by rw [HY.out]; exact a4, rfl⟩
      · go_wp2_with fail
        go_roundg (s.size - (k + 1))
        case measure => have := HG.out; omega
        case rel => exact ⟨k + 1, by have := HG.out; omega, by go_num, by rw [HY.out]; exact a4, rfl⟩
      · have b1 : (s[k].toNat : Int) < 48 := by omega
        have b2 : ((s[k].toNat : Int) != 45) = false := by rw [a2]; rfl
        go_wp2_with fail
        go_roundg (s.size - (k + 1))
        case measure => have := HG.out; omega
        case rel => exact ⟨k + 1, by have := HG.out; omega, by go_num, by rw [HY.out]; exact a3, rfl⟩
      · have b1 : (s[k].toNat : Int) < 48 := by omega
        have b2 : ((s[k].toNat : Int) != 45) = false := by rw [a2]; rfl
        go_wp2_with fail
        go_roundg (s.size - (k + 1))
        case measure => have := HG.out; omega
        case rel => exact ⟨k + 1, by have := HG.out; omega, by go_num, by rw [HY.out]; exact a3, rfl⟩
      all_goals
        have b2 : ((s[k].toNat : Int) != 45) = true := by rw [bne_iff_ne]; omega
        have hno := HM.out a4
        first
          | have b3 : decide ((48 : Int) ≤ (s[k].toNat : Int)) = false := decide_eq_false (by omega)
          | have b3 : decide ((s[k].toNat : Int) ≤ 57) = false := decide_eq_false (by omega)
        first
          | have b4 : decide ((97 : Int) ≤ bits .or .u8 (s[k].toNat : Int) 32) = false := decide_eq_false (by omega)
          | have b4 : decide (bits .or .u8 (s[k].toNat : Int) 32 ≤ (122 : Int)) = false := decide_eq_false (by omega)
        go_wp2_with fail
        go_ret
        exact ⟨by first | rfl | (rw [hno]; rfl), rfl⟩
    · have hk2 : k = s.size := by omega
      have HK := Lib.hid (show Sg.goodName s.data.toList = !s.toList.isEmpty by
        have h1 := HA.out
        rw [Com.take_all s k hk2] at h1
        unfold Sg.goodName
        rw [h1, Bool.and_true, Com.toList_data]
        cases s.data.toList with
        | nil => rfl
        | cons x t => simp)
      clear hkg hk2
      go_wp2_with fail
      go_ret
      exact ⟨ret_b (by rw [HK.out]), rfl⟩
theorem words_two (w : World) (a b : List UInt8) (t : TypeId) : ShaJ.Wd (w.alloc (.cells #[.string ⟨a.toArray⟩, .string ⟨b.toArray⟩] t)) (some ⟨w.heap.size, 0, none⟩) [a, b] := by
  refine .inr ⟨w.heap.size, 0, rfl, by simp, fun j x hj => ?_⟩
  rw [Lib.cell_of_heap (heap_alloc_new _ _)]
  match j, hj with
  | 0, hj => simp at hj; subst hj; rfl
  | 1, hj => simp at hj; subst hj; rfl
  | n + 2, hj => simp at hj

set_option maxHeartbeats 1000000 in
set_option maxRecDepth 100000 in
theorem signature (t s : List UInt8) (z : Int) (w : World) (ht : t.length ≤ 140737488340000) (hs : s.length ≤ 140737488340000) (h0 : -9223372036854775808 ≤ z) (h1 : z ≤ 9223372036854775807) (hT : Tab w) :
    Calls Tryz.prog 74 #[.string ⟨t.toArray⟩, .string ⟨s.toArray⟩, .int .i64 z] w fun e w' => e = .returned (.string ⟨(Sg.sigOf t s z).toArray⟩) ∧ Below w.heap.size w w' := by
  have kc := fun w s => Lib.run_convert_string_bytes (P := Tryz.prog) w 9 23 5 s Tryz.underlying9 Tryz.underlying23 Tryz.underlying5
  have hst : (ByteArray.mk t.toArray).size = t.length := Com.size_mk _
  have hil := Dec.itoa_len h0 h1
  go_enter Tryz.func74, Tryz.ntmps74
  go_wp2_with fail
  refine (itoa z h0 h1 w hT).mono ?_
  rintro e w1 ⟨rfl, hb1⟩
  go_wp2_with fail
  have hb2 := hb1.alloc hb1.size (.cells #[.string ⟨(Lib.itoa z).toArray⟩, .string ⟨#[115, 51]⟩] 9)
  have hwd := words_two w1 (Lib.itoa z) [115, 51] 9
  generalize w1.alloc (.cells #[.string ⟨(Lib.itoa z).toArray⟩, .string ⟨#[115, 51]⟩] 9) = w2 at *
  have hdl := ShaJ.derive_len s [Lib.itoa z, [115, 51]]
  refine (ShaJ.deriveW s [Lib.itoa z, [115, 51]] 2 w2 hwd hs (by intro x hx; simp at hx; rcases hx with rfl | rfl; (omega); (decide)) (by simp)).mono ?_
  rintro e w3 ⟨ak, ck, rfl, hK, hb3⟩
  obtain ⟨D, hD⟩ : ∃ D, D = ShaJ.derive s [Lib.itoa z, [115, 51]] := ⟨_, rfl⟩
  have HD := Lib.hid hD
  rw [← hD] at hK hdl ⊢
  clear hD
  have hzk := hb2.size
  have hB3 := hb2.trans (hb3.mono hzk)
  have hxc := ShaJ.conv_bs w3 t
  have hxb := Lib.bytesWorld_below w3 5 ⟨t.toArray⟩
  have hKX := hK.below hxb
  have hB4 := hB3.trans (hxb.mono hB3.size)
  obtain ⟨V, hV⟩ : ∃ V, V = Sha.mac D t := ⟨_, rfl⟩
  have hvl : V.length = 32 := by rw [hV, Sha.mac_length]
  have HV := Lib.hid hV
  have hmac := ShaI.macSum D t ck (grownCap w3 t.length 0 5) _ hKX hxc (by omega) ht
  rw [← hV] at hmac
  clear hV
  go_wp2_with (first
    | (go_at_call 128; refine hmac.mono ?_; rintro e w5 ⟨rfl, hb5⟩)
    | (guard_target =~ wpList _ _ _ ({ dst := _, op := Op.store 128 _ _, type := _, pos := _, after := _, guard := none } :: _) _ _; refine store32 rfl _ _ rfl V hvl rfl rfl rfl ?_; intro w6 z6 h6 hb6))
  have hhex := Hex.hexW V 32 w6 (bs_box h6 32 (Nat.le_of_eq hvl)) (by omega)
  rw [hvl] at hhex
  refine hhex.mono ?_
  rintro e w7 ⟨rfl, hb7⟩
  go_wp2_with fail
  go_ret
  have hz5 := hb5.size
  have hz4 := hB4.size
  have hz6 := hb6.size
  refine ⟨?_, ((hB4.trans (hb5.mono hz4)).trans (hb6.mono (by omega))).trans (hb7.mono (by omega))⟩
  rw [show Sg.sigOf t s z = Nm.hex V by rw [HV.out, HD.out]; rfl]
  rfl
end Go.Proofs.YtidflagmdabfaaaGreatDoor.SgA
namespace Go.Proofs.YtidflagmdabfaaaGreatDoor.Up

def hexv (c : UInt8) : Option Nat :=
  if 48 ≤ c ∧ c ≤ 57 then some (c.toNat - 48) else if 65 ≤ c ∧ c ≤ 70 then some (c.toNat - 55) else if 97 ≤ c ∧ c ≤ 102 then some (c.toNat - 87) else none
theorem hexv_lt {c : UInt8} {x : Nat} (h : hexv c = some x) : x < 16 := by
  unfold hexv at h
  split at h
  · rename_i e
    have h1 := UInt8.le_iff_toNat_le.1 e.1
    have h2 := UInt8.le_iff_toNat_le.1 e.2
    simp at h1 h2 h
    omega
  · split at h
    · rename_i e
      have h1 := UInt8.le_iff_toNat_le.1 e.1
      have h2 := UInt8.le_iff_toNat_le.1 e.2
      simp at h1 h2 h
      omega
    · split at h
      · rename_i e
        have h1 := UInt8.le_iff_toNat_le.1 e.1
        have h2 := UInt8.le_iff_toNat_le.1 e.2
        simp at h1 h2 h
        omega
      · cases h

/-- one sign more of a decoded text: what it takes, what it gives -/
def step : List UInt8 → Option (UInt8 × List UInt8)
  | [] => none
  | c :: t =>
    if c = 37 then
      match t with
      | a :: b :: r =>
        match hexv a, hexv b with
        | some x, some y => if 32 ≤ 16 * x + y ∧ 16 * x + y ≤ 126 then some (UInt8.ofNat (16 * x + y), r) else none
        | _, _ => none
      | _ => none
    else if 32 ≤ c ∧ c ≤ 126 then some (c, t) else none
theorem step_len {s : List UInt8} {c : UInt8} {r : List UInt8} (h : step s = some (c, r)) : r.length < s.length := by
  unfold step at h
  split at h
  · cases h
  · rename_i d t
    split at h
    · split at h
      · split at h
        · split at h
          · simp at h; rw [← h.2]; simp; omega
          · cases h
        · cases h
      · cases h
    · split at h
      · simp at h; rw [← h.2]; simp
      · cases h
/-- the decoded text -/
def dec (s : List UInt8) : Option (List UInt8) :=
  if s = [] then some [] else
  match _h : step s with
  | some (c, r) => (dec r).map (c :: ·)
  | none => none
termination_by s.length
decreasing_by exact step_len _h
theorem dec_nil : dec [] = some [] := by unfold dec; simp
theorem dec_none {s : List UInt8} (hs : s ≠ []) (h : step s = none) : dec s = none := by
  unfold dec
  rw [if_neg hs]
  split
  · rename_i e; rw [h] at e; cases e
  · rfl
theorem dec_some {s : List UInt8} {c : UInt8} {r : List UInt8} (h : step s = some (c, r)) : dec s = (dec r).map (c :: ·) := by
  have hs : s ≠ [] := by rintro rfl; cases h
  rw [dec, if_neg hs]
  split
  · rename_i e; rw [h] at e; simp at e; rw [e.1, e.2]
  · rename_i e; rw [h] at e; cases e
/-- what stands ahead of a byte, and behind it -/
def cutAt (c : UInt8) : List UInt8 → List UInt8 × List UInt8
  | [] => ([], [])
  | x :: t => if x = c then ([], t) else (x :: (cutAt c t).1, (cutAt c t).2)
theorem cutAt_len (c : UInt8) (s : List UInt8) : (cutAt c s).1.length + (cutAt c s).2.length ≤ s.length := by
  induction s with
  | nil => simp [cutAt]
  | cons x t ih => unfold cutAt; split <;> simp <;> omega
/-- the pieces between a byte -/
def splits (c : UInt8) : List UInt8 → List (List UInt8)
  | [] => [[]]
  | x :: t => if x = c then [] :: splits c t else match splits c t with | h :: r => (x :: h) :: r | [] => [[x]]
theorem splits_ne (c : UInt8) (s : List UInt8) : splits c s ≠ [] := by
  cases s with
  | nil => simp [splits]
  | cons x t => unfold splits; split; simp; split <;> simp
theorem splits_free {c : UInt8} : ∀ {s : List UInt8}, c ∉ s → splits c s = [s]
  | [], _ => rfl
  | x :: t, h => by
    have h1 : x ≠ c := fun e => h (by simp [e])
    have h2 : c ∉ t := fun e => h (by simp [e])
    unfold splits
    rw [if_neg h1, splits_free h2]
theorem splits_at {c : UInt8} : ∀ {a b : List UInt8}, c ∉ a → splits c (a ++ c :: b) = a :: splits c b
  | [], b, _ => by simp [splits]
  | x :: a, b, h => by
    have h1 : x ≠ c := fun e => h (by simp [e])
    have h2 : c ∉ a := fun e => h (by simp [e])
    rw [List.cons_append, splits, if_neg h1, splits_at h2]
theorem cutAt_free {c : UInt8} : ∀ {s : List UInt8}, c ∉ s → cutAt c s = (s, [])
  | [], _ => rfl
  | x :: t, h => by
    have h1 : x ≠ c := fun e => h (by simp [e])
    have h2 : c ∉ t := fun e => h (by simp [e])
    unfold cutAt
    rw [if_neg h1, cutAt_free h2]
theorem cutAt_at {c : UInt8} : ∀ {a b : List UInt8}, c ∉ a → cutAt c (a ++ c :: b) = (a, b)
  | [], b, _ => by simp [cutAt]
  | x :: a, b, h => by
    have h1 : x ≠ c := fun e => h (by simp [e])
    have h2 : c ∉ a := fun e => h (by simp [e])
    rw [List.cons_append, cutAt, if_neg h1, cutAt_at h2]
/-- a byte is in a text just where the text parts at it -/
theorem parts {c : UInt8} : ∀ {s : List UInt8}, c ∈ s → ∃ a b, s = a ++ c :: b ∧ c ∉ a
  | [], h => by cases h
  | x :: t, h => by
    by_cases e : x = c
    · exact ⟨[], t, by rw [e]; rfl, by simp⟩
    · rcases List.mem_cons.1 h with h | h
      · exact absurd h.symm e
      · obtain ⟨a, b, h1, h2⟩ := parts h
        exact ⟨x :: a, b, by rw [h1]; rfl, by simp [Ne.symm e, h2]⟩
/-- a query's pairs -/
def pair (p : List UInt8) : Option (List UInt8 × List UInt8) :=
  match dec (cutAt 61 p).1, dec (cutAt 61 p).2 with
  | some n, some v => some (n, v)
  | _, _ => none
def pairs : List (List UInt8) → Option (List (List UInt8 × List UInt8))
  | [] => some []
  | p :: r => if p = [] then pairs r else match pair p with | some x => (pairs r).map (x :: ·) | none => none
/-- a uri: its path, its pairs -/
structure Uri where
  path : List UInt8
  query : List (List UInt8 × List UInt8)
def parse (t : List UInt8) : Option Uri :=
  match dec (cutAt 63 t).1 with
  | some p => if t.head? = some 47 then (pairs (splits 38 (cutAt 63 t).2)).map (⟨p, ·⟩) else none
  | none => none

theorem pairs_skip (r : List (List UInt8)) : pairs ([] :: r) = pairs r := by simp [pairs]
/-- what is found one piece after the other -/
theorem pairs_cut (q : List UInt8) : pairs (splits 38 q) = pairs ((cutAt 38 q).1 :: splits 38 (cutAt 38 q).2) := by
  by_cases h : (38 : UInt8) ∈ q
  · obtain ⟨a, b, rfl, ha⟩ := parts h
    rw [splits_at ha, cutAt_at ha]
  · rw [splits_free h, cutAt_free h]
    have : splits 38 [] = [[]] := rfl
    rw [this]
    by_cases e : q = []
    · simp [pairs, e]
    · simp [pairs, e]

/-- the first place of a byte -/
theorem index_free {c : UInt8} {s : List UInt8} (h : c ∉ s) : Lib.index s [c] = -1 := by
  induction s with
  | nil => rfl
  | cons x t ih =>
    have h1 : x ≠ c := fun e => h (by simp [e])
    have h2 : c ∉ t := fun e => h (by simp [e])
    simp [Lib.index, List.isPrefixOf, Ne.symm h1, ih h2]
theorem index_at {c : UInt8} {a b : List UInt8} (h : c ∉ a) : Lib.index (a ++ c :: b) [c] = a.length := by
  induction a with
  | nil => simp [Lib.index, List.isPrefixOf]
  | cons x t ih =>
    have h1 : x ≠ c := fun e => h (by simp [e])
    have h2 : c ∉ t := fun e => h (by simp [e])
    simp [Lib.index, List.isPrefixOf, Ne.symm h1, ih h2]
    try omega
theorem cut_eq (c : UInt8) (s : List UInt8) : (Lib.cut s [c]).1 = (cutAt c s).1 ∧ (Lib.cut s [c]).2.1 = (cutAt c s).2 := by
  by_cases h : c ∈ s
  · obtain ⟨a, b, rfl, ha⟩ := parts h
    rw [cutAt_at ha]
    simp [Lib.cut, index_at ha]
  · rw [cutAt_free h]
    simp [Lib.cut, index_free h]
theorem pairs_append {l r : List (List UInt8)} : pairs (l ++ r) = match pairs l, pairs r with | some a, some b => some (a ++ b) | _, _ => none := by
  induction l with
  | nil => simp only [List.nil_append, pairs]; cases pairs r <;> rfl
  | cons p t ih =>
    simp only [List.cons_append, pairs]
    split
    · exact ih
    · cases pair p with
      | none => rfl
      | some x =>
        simp only [ih]
        cases pairs t <;> cases pairs r <;> rfl
theorem pairs_prefix_none {l r : List (List UInt8)} (h : l <+: r) (hn : pairs l = none) : pairs r = none := by
  obtain ⟨t, rfl⟩ := h
  rw [pairs_append, hn]
theorem pairs_skip1 {l : List (List UInt8)} {ps : List (List UInt8 × List UInt8)} (h : pairs l = some ps) : pairs (l ++ [[]]) = some ps := by
  rw [pairs_append, h]; simp [pairs]
theorem pairs_snoc {l : List (List UInt8)} {ps : List (List UInt8 × List UInt8)} {p n v : List UInt8} (h : pairs l = some ps) (hp : p ≠ []) (hn : dec (cutAt 61 p).1 = some n) (hv : dec (cutAt 61 p).2 = some v) : pairs (l ++ [p]) = some (ps ++ [(n, v)]) := by
  rw [pairs_append, h]; simp [pairs, hp, pair, hn, hv]
theorem pairs_fail {l : List (List UInt8)} {p : List UInt8} (hp : p ≠ []) (h : dec (cutAt 61 p).1 = none ∨ dec (cutAt 61 p).2 = none) : pairs (l ++ [p]) = none := by
  rw [pairs_append]
  have : pairs [p] = none := by
    simp only [pairs, if_neg hp, pair]
    rcases h with h | h
    · rw [h]
    · rw [h]; cases dec (cutAt 61 p).1 <;> rfl
  rw [this]
  cases pairs l <;> rfl
theorem pairs_length {l : List (List UInt8)} {ps : List (List UInt8 × List UInt8)} (h : pairs l = some ps) : ps.length ≤ l.length := by
  induction l generalizing ps with
  | nil => simp [pairs] at h; subst h; simp
  | cons p t ih =>
    simp only [pairs] at h
    split at h
    · have := ih h; simp; omega
    · split at h
      · cases hk : pairs t with
        | none => rw [hk] at h; cases h
        | some q => rw [hk] at h; simp at h; have := ih hk; subst h; simp; omega
      · cases h
theorem splits_length (c : UInt8) (s : List UInt8) : (splits c s).length ≤ s.length + 1 := by
  induction s with
  | nil => simp [splits]
  | cons x t ih =>
    unfold splits
    split
    · simp; omega
    · split
      · rename_i e; rw [e] at ih; simp at ih ⊢; omega
      · simp
theorem splits_mem_len (c : UInt8) (s : List UInt8) : ∀ p ∈ splits c s, p.length ≤ s.length := by
  induction s with
  | nil => simp [splits]
  | cons x t ih =>
    unfold splits
    split
    · intro p hp
      rcases List.mem_cons.1 hp with rfl | hp
      · simp
      · have := ih p hp; simp; omega
    · split
      · rename_i e
        rw [e] at ih
        intro p hp
        rcases List.mem_cons.1 hp with rfl | hp
        · have := ih _ List.mem_cons_self; simp; omega
        · have := ih p (List.mem_cons_of_mem _ hp); simp; omega
      · simp
end Go.Proofs.YtidflagmdabfaaaGreatDoor.Up
namespace Go.Proofs.YtidflagmdabfaaaGreatDoor.UriA
open Go.RowKit Go.Proofs.YtidflagmdabfaaaGreatDoor

/-- a digit's value, or -1 -/
def dg (c : UInt8) : Int := match Up.hexv c with | some x => x | none => -1
theorem dg_some {c : UInt8} {x : Nat} (h : Up.hexv c = some x) : dg c = x := by simp [dg, h]
theorem dg_none {c : UInt8} (h : Up.hexv c = none) : dg c = -1 := by simp [dg, h]
def digits : List UInt8 := [48, 49, 50, 51, 52, 53, 54, 55, 56, 57, 65, 66, 67, 68, 69, 70]
def up (n : Nat) : Nat := if 97 ≤ n ∧ n ≤ 102 then n - 32 else n
theorem dg_all : ∀ n : Fin 256, Lib.indexByte digits (up n.1).toUInt8 = dg (UInt8.ofNat n.1) := by decide +kernel
theorem dg_eq (c : UInt8) : Lib.indexByte digits (up c.toNat).toUInt8 = dg c := by
  have := dg_all ⟨c.toNat, UInt8.toNat_lt c⟩
  simpa using this

theorem ret_i64 {a b : Int} (h : a = b) : Ending.returned (.int .i64 a) = .returned (.int .i64 b) := by rw [h]
theorem ret_two {a b c d : Value} (h1 : a = c) (h2 : b = d) : Ending.returned (.tuple #[a, b]) = .returned (.tuple #[c, d]) := by rw [h1, h2]

set_option maxHeartbeats 1000000 in
set_option maxRecDepth 100000 in
theorem digit (c : UInt8) (w : World) : Calls Tryz.prog 142 #[.int .u8 (c.toNat : Int)] w fun e w' => e = .returned (.int .i64 (dg c)) ∧ w = w' := by
  have hc := UInt8.toNat_lt c
  have HE := Lib.hid (dg_eq c)
  by_cases h1 : 97 ≤ c.toNat
  · by_cases h2 : c.toNat ≤ 102
    · have hu : up c.toNat = c.toNat - 32 := by simp [up, h1, h2]
      have HU := Lib.hid hu; clear hu
      have HN := Lib.hid (show ((c.toNat : Int) - 32).toNat = c.toNat - 32 by omega)
      go_enter Tryz.func142, Tryz.ntmps142
      go_wp2_with (go_at_call 164; refine (Tryz.strings_IndexByte _ _ _).mono ?_; rintro e w' ⟨rfl, rfl⟩)
      go_ret
      exact ⟨ret_i64 (by rw [← HE.out, HU.out, ← HN.out]; rfl), rfl⟩
    · have hu : up c.toNat = c.toNat := by simp [up, h2]
      have HU := Lib.hid hu; clear hu
      go_enter Tryz.func142, Tryz.ntmps142
      go_wp2_with (go_at_call 164; refine (Tryz.strings_IndexByte _ _ _).mono ?_; rintro e w' ⟨rfl, rfl⟩)
      go_ret
      exact ⟨ret_i64 (by rw [← HE.out, HU.out, show c.toNat.toUInt8 = c by simp]; rfl), rfl⟩
  · have hu : up c.toNat = c.toNat := by simp [up, h1]
    have HU := Lib.hid hu; clear hu
    go_enter Tryz.func142, Tryz.ntmps142
    go_wp2_with (go_at_call 164; refine (Tryz.strings_IndexByte _ _ _).mono ?_; rintro e w' ⟨rfl, rfl⟩)
    go_ret
    exact ⟨ret_i64 (by rw [← HE.out, HU.out, show c.toNat.toUInt8 = c by simp]; rfl), rfl⟩

/-! ### decode -/
theorem or16_all : ∀ x y : Fin 16, bits .or .i64 (((x.1 : Nat) : Int) * 16) ((y.1 : Nat) : Int) = ((16 * x.1 + y.1 : Nat) : Int) := by decide +kernel
theorem or16 {x y : Nat} (hx : x < 16) (hy : y < 16) : bits .or .i64 ((x : Int) * 16) (y : Int) = ((16 * x + y : Nat) : Int) := or16_all ⟨x, hx⟩ ⟨y, hy⟩

theorem infoByte : (Tryz.prog.info? 5).map (fun i => (i.zero, i.size, i.bytes)) = some (some (.int .u8 0), 1, 1) := by kernel_rfl

theorem drop_at (s : ByteArray) (i : Nat) (h : i < s.size) : s.data.toList.drop i = s[i] :: s.data.toList.drop (i + 1) := by
  rw [List.drop_eq_getElem_cons (by rw [Com.toList_length]; exact h)]; rfl
theorem step_out {c : UInt8} {t : List UInt8} (h : c ≠ 37) (h2 : ¬ (32 ≤ c.toNat ∧ c.toNat ≤ 126)) : Up.step (c :: t) = none := by
  simp only [Up.step]
  rw [if_neg h, if_neg (fun ⟨a, b⟩ => h2 ⟨UInt8.le_iff_toNat_le.1 a, UInt8.le_iff_toNat_le.1 b⟩)]
theorem step_in {c : UInt8} {t : List UInt8} (h : c ≠ 37) (h1 : 32 ≤ c.toNat) (h2 : c.toNat ≤ 126) : Up.step (c :: t) = some (c, t) := by
  simp only [Up.step]
  rw [if_neg h, if_pos ⟨UInt8.le_iff_toNat_le.2 h1, UInt8.le_iff_toNat_le.2 h2⟩]
theorem step_short {l : List UInt8} (h : l.length < 2) : Up.step (37 :: l) = none := by
  match l, h with
  | [], _ => rfl
  | [a], _ => rfl
theorem step_bad {a b : UInt8} {r : List UInt8} (h : Up.hexv a = none ∨ Up.hexv b = none) : Up.step (37 :: a :: b :: r) = none := by
  simp only [Up.step, if_true]
  rcases h with h | h
  · rw [h]
  · rw [h]; cases Up.hexv a <;> rfl
theorem step_pct {a b : UInt8} {r : List UInt8} {x y : Nat} (ha : Up.hexv a = some x) (hb : Up.hexv b = some y) : Up.step (37 :: a :: b :: r) = if 32 ≤ 16 * x + y ∧ 16 * x + y ≤ 126 then some (UInt8.ofNat (16 * x + y), r) else none := by
  simp only [Up.step, if_true, ha, hb]

/-- what has come, and what is to come -/
def Sofar (l out r : List UInt8) : Prop := Up.dec l = (Up.dec r).map (out ++ ·)
theorem Sofar.start (l : List UInt8) : Sofar l [] l := by unfold Sofar; simp
theorem Sofar.done {l out : List UInt8} (h : Sofar l out []) : Up.dec l = some out := by unfold Sofar at h; rw [h, Up.dec_nil]; simp
theorem Sofar.next {l out r t : List UInt8} {c : UInt8} (h : Sofar l out r) (hs : Up.step r = some (c, t)) : Sofar l (out ++ [c]) t := by
  unfold Sofar at h ⊢
  rw [h, Up.dec_some hs]
  cases Up.dec t <;> simp
theorem Sofar.stop {l out r : List UInt8} (h : Sofar l out r) (hr : r ≠ []) (hs : Up.step r = none) : Up.dec l = none := by
  unfold Sofar at h
  rw [h, Up.dec_none hr hs]; rfl

/-- what decode answers -/
def ans (o : Option (List UInt8)) : Value := .tuple #[.string ⟨(o.getD []).toArray⟩, .bool o.isSome]

theorem below_drewN {B : Nat} {a w : World} (h : Below B a w) (n : Nat) : Below B a (w.drewN n) := h.trans ⟨rfl, rfl, rfl, Nat.le_refl _, fun _ _ => rfl⟩
theorem addr_add (b off k : Nat) : (⟨b, off, none⟩ : Addr).add k = ⟨b, off + k, none⟩ := by
  unfold Addr.add; split <;> simp_all
theorem bs_own {w : World} {base : Nat} {v : Value} {l : List UInt8} (h : w.ownsRow base 5 1 v l.length (Lib.byteCells l)) :
    ∃ a c, v = .slice a l.length c ∧ ((a = none ∧ l = [] ∧ c = 0) ∨ ∃ g, a = some ⟨g, 0, none⟩ ∧ ∀ (j : Nat) (hj : j < l.length), w.cell? ((⟨g, 0, none⟩ : Addr).add j) = some (.int .u8 (l[j].toNat : Int))) := by
  rcases h.2 with ⟨rfl, h0⟩ | ⟨g, cap, cur, hv, hb, hg, hn, hm, hcs, htk⟩
  · exact ⟨none, 0, by rw [h0], .inl ⟨rfl, List.eq_nil_of_length_eq_zero h0, rfl⟩⟩
  · exact ⟨some ⟨g, 0, none⟩, cap, hv, .inr ⟨g, rfl, fun j hj => h.cells (g := g) (by rw [hv]; rfl) j _ (by simp [Lib.byteCells, List.getElem?_eq_getElem hj])⟩⟩
/-- bytes as a string -/
theorem to_string {w : World} {a : Option Addr} {l : List UInt8} {c : Nat} (h : (a = none ∧ l = [] ∧ c = 0) ∨ ∃ g, a = some ⟨g, 0, none⟩ ∧ ∀ (j : Nat) (hj : j < l.length), w.cell? ((⟨g, 0, none⟩ : Addr).add j) = some (.int .u8 (l[j].toNat : Int))) :
    (convert 23 9 (.slice a l.length c)).run Tryz.prog w = .ok (.string ⟨l.toArray⟩) w := by
  rcases h with ⟨rfl, rfl, rfl⟩ | ⟨g, rfl, h⟩
  · kernel_rfl
  · exact run_convert_bytes_back w 23 9 5 ⟨g, 0, none⟩ c l Tryz.underlying23 Tryz.underlying5 Tryz.underlying9 h

set_option maxHeartbeats 8000000 in
set_option maxRecDepth 100000 in
theorem decode (s : ByteArray) (w : World) (hs : s.size ≤ 70368744177664) :
    Calls Tryz.prog 86 #[.string s] w fun e w' => e = .returned (ans (Up.dec s.data.toList)) ∧ Below w.heap.size w w' := by
  obtain ⟨i0, hi, hz0, hz1, hz2⟩ := info_parts infoByte
  go_enter Tryz.func86, Tryz.ntmps86
  go_wp2_with fail
  go_loopg [4, 5] s.size (fun g v i wr => ∃ (k : Nat) (out : List UInt8), k + g = s.size ∧ i = .int .i64 k ∧ wr.ownsRow w.heap.size 5 1 v out.length (Lib.byteCells out) ∧ Below w.heap.size w wr ∧ Sofar s.data.toList out (s.data.toList.drop k) ∧ out.length ≤ k)
  case atStart => exact ⟨0, [], by omega, rfl, World.ownsRow_nil _ _ _ _, Below.refl _ _, Sofar.start _, Nat.le_refl _⟩
  case round =>
    obtain ⟨k, out, hkg, rfl, hown, hb, hso, hol⟩ := hrel
    have HG := Lib.hid hkg
    have hkx : k ≤ s.size := by omega
    clear hkg
    have HO := Lib.hid hso; clear hso
    by_cases hlt : k < s.size
    · have HD := Lib.hid (drop_at s k hlt)
      by_cases hp : s[k] = 37
      · have t1 : ((s[k].toNat : Int) == 37) = true := by rw [hp]; rfl
        have HP := Lib.hid hp; clear hp
        by_cases hsh : s.size ≤ k + 2
        · go_wp2_with fail
          go_ret2
          have hn : Up.dec s.data.toList = none := by
            refine HO.out.stop (by rw [HD.out]; simp) ?_
            rw [HD.out, HP.out]
            exact step_short (by rw [List.length_drop, Com.toList_length]; omega)
          exact ⟨by rw [hn]; rfl, hb⟩
        · have hk1 : k + 1 < s.size := by omega
          have hk2 : k + 2 < s.size := by omega
          have HD2 := Lib.hid (show s.data.toList.drop k = 37 :: s[k + 1] :: s[k + 2] :: s.data.toList.drop (k + 3) by
            rw [HD.out, HP.out, drop_at s (k + 1) hk1, drop_at s (k + 2) hk2])
          clear HD
          cases hx : Up.hexv s[k + 1] with
          | none =>
            have hdx : dg s[k + 1] = -1 := dg_none hx
            have HX := Lib.hid hx; clear hx
            go_wp2_with (go_at_call 142; refine (digit s[k + 1] _).mono ?_; rintro e w' ⟨rfl, rfl⟩)
            go_ret2
            have hn : Up.dec s.data.toList = none := by
              refine HO.out.stop (by rw [HD2.out]; simp) ?_
              rw [HD2.out]
              exact step_bad (.inl HX.out)
            exact ⟨by rw [hn]; rfl, hb⟩
          | some x =>
            have hx16 := Up.hexv_lt hx
            have hdx : dg s[k + 1] = (x : Int) := dg_some hx
            have HX := Lib.hid hx; clear hx
            cases hy : Up.hexv s[k + 2] with
            | none =>
              have hdy : dg s[k + 2] = -1 := dg_none hy
              have HY := Lib.hid hy; clear hy
              go_wp2_with (go_at_call 142; refine (digit _ _).mono ?_; rintro e w' ⟨rfl, rfl⟩)
              go_ret2
              have hn : Up.dec s.data.toList = none := by
                refine HO.out.stop (by rw [HD2.out]; simp) ?_
                rw [HD2.out]
                exact step_bad (.inr HY.out)
              exact ⟨by rw [hn]; rfl, hb⟩
            | some y =>
              have hy16 := Up.hexv_lt hy
              have hdy : dg s[k + 2] = (y : Int) := dg_some hy
              have HY := Lib.hid hy; clear hy
              obtain ⟨z, hz⟩ : ∃ z, z = 16 * x + y := ⟨_, rfl⟩
              have hor : bits .or .i64 ((x : Int) * 16) (y : Int) = (z : Int) := by rw [hz]; exact or16 hx16 hy16
              have hzm : (z : Int) % 256 = (z : Int) := by omega
              have hz8 : z < 256 := by omega
              have HZ := Lib.hid hz; clear hz
              have hstep : Up.step (s.data.toList.drop k) = if 32 ≤ z ∧ z ≤ 126 then some (UInt8.ofNat z, s.data.toList.drop (k + 3)) else none := by
                rw [HD2.out, step_pct HX.out HY.out, HZ.out]
              have HS := Lib.hid hstep; clear hstep
              have hne : s.data.toList.drop k ≠ [] := by rw [HD2.out]; simp
              have HNE := Lib.hid hne; clear hne
              by_cases h1 : z < 32
              · go_wp2_with (go_at_call 142; refine (digit _ _).mono ?_; rintro e w' ⟨rfl, rfl⟩)
                go_quiet ((go_at_call 142; exact Calls.quiet_of_same ((digit _ _).mono fun _ _ ⟨h1, h2⟩ => ⟨h1, h2.symm⟩)))
                go_wp2_with fail
                go_ret2
                have hn : Up.dec s.data.toList = none := HO.out.stop HNE.out (by rw [HS.out, if_neg (by omega)])
                exact ⟨by rw [hn]; rfl, below_drewN hb _⟩
              · by_cases h2 : 126 < z
                · go_wp2_with (go_at_call 142; refine (digit _ _).mono ?_; rintro e w' ⟨rfl, rfl⟩)
                  go_quiet ((go_at_call 142; exact Calls.quiet_of_same ((digit _ _).mono fun _ _ ⟨h1, h2⟩ => ⟨h1, h2.symm⟩)))
                  go_wp2_with fail
                  go_ret2
                  have hn : Up.dec s.data.toList = none := HO.out.stop HNE.out (by rw [HS.out, if_neg (by omega)])
                  exact ⟨by rw [hn]; rfl, below_drewN hb _⟩
                · go_wp2_with (go_at_call 142; refine (digit _ _).mono ?_; rintro e w' ⟨rfl, rfl⟩)
                  go_quiet ((go_at_call 142; exact Calls.quiet_of_same ((digit _ _).mono fun _ _ ⟨h1, h2⟩ => ⟨h1, h2.symm⟩)))
                  have hown2 : (wr.drewN nq).ownsRow w.heap.size 5 1 u4 out.length (Lib.byteCells out) := hown
                  have hb2 : Below w.heap.size w (wr.drewN nq) := below_drewN hb _
                  generalize wr.drewN nq = w2 at hown2 hb2 ⊢
                  clear hown hb
                  go_wp2_with (at_builtin; refine wpList_append_own _ rfl _ _ 23 rfl w.heap.size 5 i0 (.int .u8 0) 1 1 Tryz.underlying23 hi hz0 hz1 hz2 rfl (by decide) _ _ _ rfl (hown2.alloc _) ⟨w2.heap.size, 0, none⟩ 1 1 [.int .u8 (z : Int)] rfl rfl (Com.cells_new _ _ _) (by simp [Value.oneCell']) (by unfold maxLen; omega) (by omega) (by have := hb2.size; simp; omega) ?_; intro v' w1 hown' hgrow _)
                  have hown1 : w1.ownsRow w.heap.size 5 1 v' (out ++ [UInt8.ofNat z]).length (Lib.byteCells (out ++ [UInt8.ofNat z])) := by
                    have e : ((UInt8.ofNat z).toNat : Int) = (z : Int) := by simp; omega
                    rw [Lib.byteCells, List.map_append, List.map_cons, List.map_nil, e, List.length_append]
                    exact hown'
                  have hb1 : Below w.heap.size w w1 := (hb2.alloc hb2.size _).grown hgrow (by have := hb2.size; simp; omega) (fun j hj => (hown2.lt j hj).1)
                  have HO1 := Lib.hid hown1; clear hown1 hown'
                  go_roundg (gk - 3)
                  case measure => have := HG.out; omega
                  case rel => exact ⟨k + 3, out ++ [UInt8.ofNat z], by have := HG.out; omega, by go_num, HO1.out, hb1, HO.out.next (by rw [HS.out, if_pos ⟨by omega, by omega⟩]), by simp; omega⟩
      · have t1 := Com.u8_ne hp (n := 37) rfl
        have t2 := Com.u8_bne hp (n := 37) rfl
        by_cases h1 : s[k].toNat < 32
        · go_wp2_with fail
          go_ret2
          have hn : Up.dec s.data.toList = none := by
            refine HO.out.stop (by rw [HD.out]; simp) ?_
            rw [HD.out]
            exact step_out hp (by omega)
          exact ⟨by rw [hn]; rfl, hb⟩
        · by_cases h2 : 126 < s[k].toNat
          · go_wp2_with fail
            go_ret2
            have hn : Up.dec s.data.toList = none := by
              refine HO.out.stop (by rw [HD.out]; simp) ?_
              rw [HD.out]
              exact step_out hp (by omega)
            exact ⟨by rw [hn]; rfl, hb⟩
          · go_wp2_with (at_builtin; refine wpList_append_own _ rfl _ _ 23 rfl w.heap.size 5 i0 (.int .u8 0) 1 1 Tryz.underlying23 hi hz0 hz1 hz2 rfl (by decide) _ _ _ rfl (hown.alloc _) ⟨wr.heap.size, 0, none⟩ 1 1 [.int .u8 (s[k].toNat : Int)] rfl rfl (Com.cells_new _ _ _) (by simp [Value.oneCell']) (by unfold maxLen; omega) (by omega) (by have := hb.size; simp; omega) ?_; intro v' w1 hown' hgrow _)
            have hown1 : w1.ownsRow w.heap.size 5 1 v' (out ++ [s[k]]).length (Lib.byteCells (out ++ [s[k]])) := by simpa [Lib.byteCells] using hown'
            have hb1 : Below w.heap.size w w1 := (hb.alloc hb.size _).grown hgrow (by have := hb.size; simp; omega) (fun j hj => (hown.lt j hj).1)
            have HO1 := Lib.hid hown1; clear hown1 hown'
            go_roundg (gk - 1)
            case measure => have := HG.out; omega
            case rel => exact ⟨k + 1, out ++ [s[k]], by have := HG.out; omega, by go_num, HO1.out, hb1, HO.out.next (by rw [HD.out]; exact step_in hp (by omega) (by omega)), by simp; omega⟩
    · have hks : k = s.size := by omega
      obtain ⟨A, c, rfl, hbs⟩ := bs_own hown
      have kc := to_string hbs
      have HE := Lib.hid (show Up.dec s.data.toList = some out by
        have := HO.out
        rw [List.drop_eq_nil_of_le (by rw [Com.toList_length]; omega)] at this
        exact this.done)
      go_wp2_with fail
      go_ret2
      exact ⟨by rw [HE.out]; rfl, hb⟩
theorem decodeS {s : ByteArray} {o : List UInt8} (h : Up.dec s.data.toList = some o) (w : World) (hs : s.size ≤ 70368744177664) :
    Calls Tryz.prog 86 #[.string s] w fun e w' => e = .returned (.tuple #[.string ⟨o.toArray⟩, .bool true]) ∧ Below w.heap.size w w' :=
  (decode s w hs).mono fun _ _ ⟨h1, h2⟩ => ⟨by rw [h1, h]; rfl, h2⟩
theorem decodeN {s : ByteArray} (h : Up.dec s.data.toList = none) (w : World) (hs : s.size ≤ 70368744177664) :
    Calls Tryz.prog 86 #[.string s] w fun e w' => e = .returned (.tuple #[.string ⟨#[]⟩, .bool false]) ∧ Below w.heap.size w w' :=
  (decode s w hs).mono fun _ _ ⟨h1, h2⟩ => ⟨by rw [h1, h]; rfl, h2⟩
end Go.Proofs.YtidflagmdabfaaaGreatDoor.UriA
