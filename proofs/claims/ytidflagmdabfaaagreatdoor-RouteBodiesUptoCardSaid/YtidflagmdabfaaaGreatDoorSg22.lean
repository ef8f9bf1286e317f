/-
  Plain: what was signed is taken; signed anew; keys one behind the other. Package sig's Sign and Check at every request. Plain: a signed request is taken on another day, and with another body denied: the laws' first example. The walk of bollardnum's Num: the errors of package api by their numbers. The walk of the laws' alive: what was signed is taken, and with another body denied.
-/
import Derived.Test.YtidflagmdabfaaaGreatDoorSg01
import Derived.Test.YtidflagmdabfaaaGreatDoorSg15
import Derived.Test.YtidflagmdabfaaaGreatDoorSg19
import Derived.Test.YtidflagmdabfaaaGreatDoorSg21
import Derived.Test.YtidflagmdabfaaaGreatDoorProg
import Derived.WalkKit
import Derived.Below
import Derived.LaidEql
import Derived.Deep.LoopGhost
import Derived.Stop.LaidErr
import Derived.Lib.Hide
namespace Go.Proofs.YtidflagmdabfaaaGreatDoor.SgL
open Go.Proofs.YtidflagmdabfaaaGreatDoor Go.Proofs.YtidflagmdabfaaaGreatDoor.Sg Go.Proofs.YtidflagmdabfaaaGreatDoor.Nm

theorem no_others {fs : List Fld} {n : List UInt8} (hn : n = xdate ∨ n = auth) : ∀ f ∈ others fs, (f.1 == n) = false := by
  intro f hf
  have := (List.mem_filter.1 hf).2
  simp only [Bool.and_eq_true, Bool.not_eq_true'] at this
  rcases hn with rfl | rfl
  · exact this.1
  · exact this.2
theorem filter_others {fs r : List Fld} {n : List UInt8} (hn : n = xdate ∨ n = auth) : (others fs ++ r).filter (fun f => f.1 == n) = r.filter (fun f => f.1 == n) := by
  rw [List.filter_append, List.filter_eq_nil_iff.2 (fun f hf => by rw [no_others hn f hf]; decide), List.nil_append]
theorem find_others {fs r : List Fld} {n : List UInt8} (hn : n = xdate ∨ n = auth) : (others fs ++ r).find? (fun f => f.1 == n) = r.find? (fun f => f.1 == n) := by
  rw [List.find?_append, List.find?_eq_none.2 (fun f hf => by rw [no_others hn f hf]; decide), Option.none_or]
theorem cnt_date (fs : List Fld) (d : Int) (n h : List UInt8) : Ht.cnt (others fs ++ two d n h) xdate = 1 := by
  unfold Ht.cnt
  rw [filter_others (.inl rfl)]
  rfl
theorem cnt_auth (fs : List Fld) (d : Int) (n h : List UInt8) : Ht.cnt (others fs ++ two d n h) auth = 1 := by
  unfold Ht.cnt
  rw [filter_others (.inr rfl)]
  rfl
theorem get_date (fs : List Fld) (d : Int) (n h : List UInt8) : Ht.get (others fs ++ two d n h) xdate = some (Lib.itoa d) := by
  unfold Ht.get
  rw [find_others (.inl rfl)]
  rfl
theorem get_auth (fs : List Fld) (d : Int) (n h : List UInt8) : Ht.get (others fs ++ two d n h) auth = some (Sg.mark n h) := by
  unfold Ht.get
  rw [find_others (.inr rfl)]
  rfl
theorem others_signed (fs : List Fld) (d : Int) (n h : List UInt8) : others (others fs ++ two d n h) = others fs := by
  unfold others
  rw [List.filter_append, List.filter_filter]
  have e : (two d n h).filter (fun f => !(f.1 == xdate) && !(f.1 == auth)) = [] := rfl
  rw [e, List.append_nil]
  congr 1
  funext f
  exact Bool.and_self _
theorem parts_mark {n h : List UInt8} (hg : goodName n = true) (hl : h.length = 64) (hx : isHex h = true) : parts (Sg.mark n h) = some (n, h) := by
  have e0 : Sg.mark n h = (scheme ++ [32]) ++ (n ++ 58 :: h) := by
    unfold Sg.mark
    simp only [List.append_assoc, List.cons_append, List.nil_append]
  have e1 : (Sg.mark n h).take 9 = scheme ++ [32] := by rw [e0]; exact List.take_left' rfl
  have e2 : (Sg.mark n h).drop 9 = n ++ 58 :: h := by rw [e0]; exact List.drop_left' rfl
  have hn : (58 : UInt8) ∉ n := fun hx => by
    simp only [goodName, Bool.and_eq_true, List.all_eq_true] at hg
    exact absurd (hg.2 58 hx) (by decide)
  have e3 : Lib.cut (n ++ 58 :: h) [58] = (n, h, true) := by
    unfold Lib.cut
    rw [Up.index_at hn, if_pos (by omega), Int.toNat_natCast, List.take_left, show n.length + ([58] : List UInt8).length = n.length + 1 from rfl, List.drop_length_add_append]
    rfl
  unfold parts
  rw [if_pos e1, e2, e3]
  simp only
  rw [if_pos ⟨trivial, hg, hl, hx⟩]
theorem good_nat {d : Int} (h : goodDate d = true) : ∃ k : Nat, d = k ∧ k ≤ 1099511627776 := by
  simp only [goodDate, Bool.and_eq_true, decide_eq_true_eq] at h
  exact ⟨d.toNat, by omega, by omega⟩
theorem sig_len (x s : List UInt8) (d : Int) : (sigOf x s d).length = 64 := by
  unfold sigOf
  rw [hex_length, Sha.mac_length]
theorem sig_hex (x s : List UInt8) (d : Int) : isHex (sigOf x s d) = true := hex_isHex _
theorem claimed_signed {fs : List Fld} {k : Nat} {n h : List UInt8} (hk : k ≤ 1099511627776) (hg : goodName n = true) (hl : h.length = 64) (hx : isHex h = true) :
    claimed (others fs ++ two k n h) = some (k, n, h) := by
  unfold claimed
  rw [if_pos ⟨cnt_date _ _ _ _, cnt_auth _ _ _ _⟩, get_date, get_auth, Ato.itoa_nat]
  simp only [Option.bind_some, numOf_dec hk, parts_mark hg hl hx]
theorem check_signed {m t bd : List UInt8} {fs keys : List Fld} {k : Nat} {n h : List UInt8} {u : Up.Uri} {now : Int} (hP : Up.parse t = some u) (hk : k ≤ 1099511627776) (hg : goodName n = true) (hl : h.length = 64) (hx : isHex h = true) :
    check m t bd (others fs ++ two k n h) keys now = among (lines m u bd k) n h k now keys := by
  unfold check
  rw [hP]
  simp only
  rw [claimed_signed hk hg hl hx]
/-- a request that is signed again -/
theorem sign_again (m t bd : List UInt8) (fs : List Fld) (d : Int) (n h n' s' : List UInt8) (d' : Int) : sign m t bd (others fs ++ two d n h) n' s' d' = sign m t bd fs n' s' d' := by
  unfold sign
  cases text m t bd d' with
  | no e => rfl
  | ok x => rw [others_signed]
theorem sign_ok {m t bd : List UInt8} {fs fa : List Fld} {n s : List UInt8} {d : Int} (h : sign m t bd fs n s d = .ok fa) :
    ∃ u, Up.parse t = some u ∧ goodDate d = true ∧ goodName n = true ∧ fa = others fs ++ two d n (sigOf (lines m u bd d) s d) := by
  unfold sign text at h
  cases hP : Up.parse t with
  | none => rw [hP] at h; cases h
  | some u =>
    rw [hP] at h
    simp only at h
    by_cases hd : goodDate d = true
    · rw [if_pos hd] at h
      simp only at h
      by_cases hg : goodName n = true
      · rw [if_pos hg] at h
        cases h
        exact ⟨u, rfl, hd, hg, rfl⟩
      · rw [if_neg hg] at h; cases h
    · rw [if_neg hd] at h; cases h
theorem sign_no {m t bd : List UInt8} {fs : List Fld} {n s : List UInt8} {d : Int} {e : Er} {u : Up.Uri} (hP : Up.parse t = some u) (h : sign m t bd fs n s d = .no e) : goodName n = false ∨ d < 0 ∨ 1099511627776 < d := by
  unfold sign text at h
  rw [hP] at h
  simp only at h
  by_cases hd : goodDate d = true
  · rw [if_pos hd] at h
    simp only at h
    by_cases hg : goodName n = true
    · rw [if_pos hg] at h; cases h
    · exact .inl (by simpa using hg)
  · simp only [goodDate, Bool.and_eq_true, decide_eq_true_eq] at hd
    omega
/-- checked on its day with its key alone -/
theorem check_own {m t bd : List UInt8} {fs fb : List Fld} {n s : List UInt8} {d : Int} (h : sign m t bd fs n s d = .ok fb) : check m t bd fb [(n, s)] d = .ok n := by
  obtain ⟨u, hP, hd, hg, rfl⟩ := sign_ok h
  obtain ⟨k, rfl, hk⟩ := good_nat hd
  rw [check_signed hP hk hg (sig_len _ _ _) (sig_hex _ _ _)]
  unfold among
  rw [if_pos rfl, if_pos rfl, if_neg (by omega)]
/-- checked some ticks off, behind a key of another name -/
theorem check_off {m t bd : List UInt8} {fs fb : List Fld} {n s s' : List UInt8} {d off : Int} (h : sign m t bd fs n s d = .ok fb) :
    check m t bd fb [(n ++ [45], s'), (n, s)] (d + off) = if off < -100 ∨ 100 < off then .no .skew else .ok n := by
  obtain ⟨u, hP, hd, hg, rfl⟩ := sign_ok h
  obtain ⟨k, rfl, hk⟩ := good_nat hd
  rw [check_signed hP hk hg (sig_len _ _ _) (sig_hex _ _ _)]
  unfold among
  rw [if_neg (fun e => by have := congrArg List.length e; simp at this)]
  unfold among
  rw [if_pos rfl, if_pos rfl]
  by_cases ho : off < -100 ∨ 100 < off
  · rw [if_pos ho, if_pos (by omega)]
  · rw [if_neg ho, if_neg (by omega)]
end Go.Proofs.YtidflagmdabfaaaGreatDoor.SgL
namespace Go.Proofs.YtidflagmdabfaaaGreatDoor.SgK
open Go.RowKit Go.Proofs.YtidflagmdabfaaaGreatDoor Go.Proofs.YtidflagmdabfaaaGreatDoor.HtW Go.Proofs.YtidflagmdabfaaaGreatDoor.HtC Go.Proofs.YtidflagmdabfaaaGreatDoor.Ato Go.Proofs.YtidflagmdabfaaaGreatDoor.SgA Go.Proofs.YtidflagmdabfaaaGreatDoor.SgB Go.Proofs.YtidflagmdabfaaaGreatDoor.SgC

theorem own_bs {w : World} {base : Nat} {a : Option Addr} {l : List UInt8} {c : Nat} (h : w.ownsRow base 5 1 (.slice a l.length c) l.length (Lib.byteCells l)) : Bs w a l c := by
  obtain ⟨a', c', hv, hb⟩ := bs_of_own h
  simp only [Value.slice.injEq, true_and] at hv
  obtain ⟨rfl, rfl⟩ := hv
  exact hb
theorem text_len {m t bd x : List UInt8} {date : Int} (h : Sg.text m t bd date = .ok x) (ht : t.length ≤ 16777215) (hm : m.length ≤ 16777216) (h0 : -9223372036854775808 ≤ date) (h1 : date ≤ 9223372036854775807) : x.length ≤ 1073741824 := by
  unfold Sg.text at h
  cases hP : Up.parse t with
  | none => rw [hP] at h; cases h
  | some u =>
    rw [hP] at h
    simp only at h
    split at h
    · cases h
      exact lines_len hP (by omega) hm h0 h1
    · cases h
theorem sign (m t bd : List UInt8) (fs : List Sg.Fld) (n s : List UInt8) {ab af : Option Addr} (cb cf : Nat) (date : Int) (w : World) {aU aR aD aK : Addr} (hE : Env w aU aR aD aK) (hb : Bs w ab bd cb) (hf : Fs w af fs) (ht : t.length ≤ 16777215) (hm : m.length ≤ 16777216) (hbl : bd.length ≤ 140737488350000) (h0 : -9223372036854775808 ≤ date) (h1 : date ≤ 9223372036854775807) (hnl : n.length ≤ 16777216) (hsl : s.length ≤ 140737488340000) (hfl : fs.length ≤ 4294967296) :
    Calls Tryz.prog 36 #[.agg #[.string ⟨m.toArray⟩, .string ⟨t.toArray⟩, .slice af fs.length cf, .slice ab bd.length cb], .agg #[.string ⟨n.toArray⟩, .string ⟨s.toArray⟩], .int .i64 date] w fun e w' => SignPost aU aR aD aK m t bd w.heap.size w' e (Sg.sign m t bd fs n s date) ∧ Below w.heap.size w w' := by
  cases hx : Sg.text m t bd date with
  | no er =>
    have hs : Sg.sign m t bd fs n s date = .no er := by unfold Sg.sign; rw [hx]
    rw [hs]
    exact sign_no m t bd fs n s cb cf date w hE hb ht hm hbl h0 h1 hx
  | ok x =>
    have hxl := text_len hx ht hm h0 h1
    by_cases hg : Sg.goodName n = true
    · have hs : Sg.sign m t bd fs n s date = .ok (Sg.others fs ++ Sg.two date n (Sg.sigOf x s date)) := by unfold Sg.sign; rw [hx]; simp only; rw [if_pos hg]
      rw [hs]
      exact SgD.sign_yes m t bd fs n s cb cf date w hE hb hf ht hm hbl h0 h1 hx hnl hsl hfl (by omega) hg
    · have hs : Sg.sign m t bd fs n s date = .no .req := by unfold Sg.sign; rw [hx]; simp only; rw [if_neg hg]
      rw [hs]
      exact sign_req m t bd fs n s cb cf date w hE hb ht hm hbl h0 h1 hx hnl (by simpa using hg)
theorem check (m t bd : List UInt8) (fs ks : List Sg.Fld) {ab af ak : Option Addr} (cb cf ck : Nat) (now : Int) (w : World) {aU aR aD aK : Addr} (hE : Env w aU aR aD aK) (hb : Bs w ab bd cb) (hf : Fs w af fs) (hk : Fs w ak ks) (hN : Ne w) (hfl : fs.length ≤ 4294967296) (hkl : ks.length ≤ 4294967296) (hkv : ∀ q ∈ ks, q.2.length ≤ 16777216) (hv : ∀ q ∈ fs, q.2.length ≤ 16777216) (ht : t.length ≤ 16777215) (hm : m.length ≤ 16777216) (hbl : bd.length ≤ 140737488350000) (n0 : -9223372036854775808 ≤ now) (n1 : now ≤ 9223372036854775807) :
    Calls Tryz.prog 39 #[.agg #[.string ⟨m.toArray⟩, .string ⟨t.toArray⟩, .slice af fs.length cf, .slice ab bd.length cb], .slice ak ks.length ck, .int .i64 now] w fun e w' => e = .returned (tv aU aR aD aK (Sg.check m t bd fs ks now)) ∧ Below w.heap.size w w' := by
  cases hP : Up.parse t with
  | none => exact SgG.check_uri m t bd fs ks cb cf ck now w hE ht hP
  | some u =>
    cases hc : Sg.claimed fs with
    | none => exact SgG.check_req m t bd fs ks cb cf ck now w hE hf hN hfl hv ht hP hc
    | some x =>
      obtain ⟨n, a, h⟩ := x
      exact SgH.check_keys m t bd fs ks cb cf ck now w hE hb hf hk hN hfl hkl hkv hv ht hm hbl n0 n1 hP hc
end Go.Proofs.YtidflagmdabfaaaGreatDoor.SgK
namespace Go.Proofs.YtidflagmdabfaaaGreatDoor.SgM
open Go.RowKit Go.Proofs.YtidflagmdabfaaaGreatDoor Go.Proofs.YtidflagmdabfaaaGreatDoor.HtW Go.Proofs.YtidflagmdabfaaaGreatDoor.HtC Go.Proofs.YtidflagmdabfaaaGreatDoor.Ato Go.Proofs.YtidflagmdabfaaaGreatDoor.SgA Go.Proofs.YtidflagmdabfaaaGreatDoor.SgB Go.Proofs.YtidflagmdabfaaaGreatDoor.SgC

def mG : List UInt8 := [71, 69, 84]
def tA : List UInt8 := [47, 97, 97, 97]
theorem parseA : Up.parse tA = some ⟨tA, []⟩ := by kernel_rfl
theorem qt0 : UriR.qt [] = [] := by
  have h := List.eq_nil_of_length_eq_zero (UriR.srt_length [])
  unfold UriR.qt
  rw [h]
  rfl
theorem itoa12 : Lib.itoa 12 = [49, 50] := by
  unfold Lib.itoa
  rw [if_neg (by decide), show (12 : Int).toNat = 12 from rfl]
  unfold Lib.decDigits
  rw [dif_neg (by decide)]
  unfold Lib.decDigits
  rw [dif_pos (by decide)]
  rfl
def lead12 : List UInt8 := [66, 79, 76, 76, 65, 82, 68, 49, 10, 49, 50, 10, 71, 69, 84, 10, 47, 97, 97, 97, 10, 10]
theorem linesA (bd : List UInt8) : Sg.lines mG ⟨tA, []⟩ bd 12 = lead12 ++ Nm.hex (Sha.sha bd) := by
  have h : UriD.enc true tA = tA := by decide +kernel
  unfold Sg.lines
  simp only [qt0, itoa12, h]
  rfl
/-- the key made for the twelfth tick -/
def key12 : List UInt8 := Sha.mac (Sha.mac [66, 79, 76, 76, 65, 82, 68, 115] [49, 50]) [115, 51]
theorem key12_eq : Sg.derive [115] [Lib.itoa 12, Sg.s3] = key12 := by
  have h1 : Sg.lead ++ [115] = [66, 79, 76, 76, 65, 82, 68, 115] := rfl
  have h2 : Sg.s3 = [115, 51] := rfl
  rw [itoa12, h2]
  unfold Sg.derive key12
  rw [List.foldl_cons, List.foldl_cons, List.foldl_nil, h1]
set_option maxRecDepth 1000000 in
theorem apart : Sha.mac key12 (lead12 ++ Nm.hex (Sha.sha [])) ≠ Sha.mac key12 (lead12 ++ Nm.hex (Sha.sha [1])) := by decide +kernel
theorem hex_inj : ∀ {l r : List UInt8}, Nm.hex l = Nm.hex r → l = r := by
  have h1 : ∀ a b : Fin 16, Nm.hx a.1 = Nm.hx b.1 → a = b := by decide +kernel
  have h1' : ∀ c d : UInt8, Nm.hex1 c = Nm.hex1 d → c = d := fun c d h => by
    have hc := UInt8.toNat_lt c
    have hd := UInt8.toNat_lt d
    simp only [Nm.hex1, List.cons.injEq, and_true] at h
    have e1 := congrArg Fin.val (h1 ⟨c.toNat / 16, by omega⟩ ⟨d.toNat / 16, by omega⟩ h.1)
    have e2 := congrArg Fin.val (h1 ⟨c.toNat % 16, by omega⟩ ⟨d.toNat % 16, by omega⟩ h.2)
    simp only at e1 e2
    exact UInt8.toNat_inj.1 (by omega)
  intro l
  induction l with
  | nil =>
    intro r h
    cases r with
    | nil => rfl
    | cons d r => have := congrArg List.length h; rw [Nm.hex_length, Nm.hex_length] at this; simp at this
  | cons c l ih =>
    intro r h
    cases r with
    | nil => have := congrArg List.length h; rw [Nm.hex_length, Nm.hex_length] at this; simp at this
    | cons d r =>
      have e : ∀ (c : UInt8) (l : List UInt8), Nm.hex (c :: l) = Nm.hex1 c ++ Nm.hex l := fun c l => by simp [Nm.hex]
      rw [e, e] at h
      have := List.append_inj h rfl
      rw [h1' _ _ this.1, ih this.2]
theorem sigs_apart : Sg.sigOf (Sg.lines mG ⟨tA, []⟩ [1] 12) [115] 12 ≠ Sg.sigOf (Sg.lines mG ⟨tA, []⟩ [] 12) [115] 12 := by
  unfold Sg.sigOf
  rw [key12_eq, linesA, linesA]
  exact fun h => apart (hex_inj h).symm
/-- the fields of the signed request -/
noncomputable def fsA : List Sg.Fld := Sg.others [] ++ Sg.two 12 [107] (Sg.sigOf (Sg.lines mG ⟨tA, []⟩ [] 12) [115] 12)
theorem fsA_len : fsA.length = 2 := rfl
theorem itoa12_len : (Lib.itoa 12).length ≤ 21 := by rw [itoa12]; decide
theorem signA : Sg.sign mG tA [] [] [107] [115] 12 = .ok fsA := by
  unfold Sg.sign Sg.text fsA
  rw [parseA]
  rfl
theorem checkA : Sg.check mG tA [] fsA [([107], [115])] 112 = .ok [107] := by
  refine (SgL.check_signed (k := 12) parseA (by decide) (by decide) (SgL.sig_len _ _ _) (SgL.sig_hex _ _ _)).trans ?_
  unfold Sg.among
  rw [if_pos rfl]
  refine (if_pos rfl).trans ?_
  rfl
theorem checkB : Sg.check mG tA [1] fsA [([107], [115])] 12 = .no .denied := by
  refine (SgL.check_signed (k := 12) parseA (by decide) (by decide) (SgL.sig_len _ _ _) (SgL.sig_hex _ _ _)).trans ?_
  unfold Sg.among
  rw [if_pos rfl]
  exact if_neg sigs_apart

theorem one_key (w : World) (n s : List UInt8) : Fs (w.alloc (.cells #[.string ⟨n.toArray⟩, .string ⟨s.toArray⟩] 71)) (some ⟨w.heap.size, 0, none⟩) [(n, s)] := by
  refine .inr ⟨w.heap.size, 0, rfl, by simp, fun j q hj => ?_⟩
  match j, hj with
  | 0, hj =>
    simp at hj
    subst hj
    exact ⟨Lib.cell_of_heap (j := 0) (heap_alloc_new _ _), Lib.cell_of_heap (j := 1) (heap_alloc_new _ _)⟩
  | j + 1, hj => simp at hj
theorem two_keys (w : World) (n s n' s' : List UInt8) : Fs (w.alloc (.cells #[.string ⟨n.toArray⟩, .string ⟨s.toArray⟩, .string ⟨n'.toArray⟩, .string ⟨s'.toArray⟩] 71)) (some ⟨w.heap.size, 0, none⟩) [(n, s), (n', s')] := by
  refine .inr ⟨w.heap.size, 0, rfl, by simp, fun j q hj => ?_⟩
  match j, hj with
  | 0, hj =>
    simp at hj
    subst hj
    exact ⟨Lib.cell_of_heap (j := 0) (heap_alloc_new _ _), Lib.cell_of_heap (j := 1) (heap_alloc_new _ _)⟩
  | 1, hj =>
    simp at hj
    subst hj
    exact ⟨Lib.cell_of_heap (j := 2) (heap_alloc_new _ _), Lib.cell_of_heap (j := 3) (heap_alloc_new _ _)⟩
  | j + 2, hj => simp at hj
theorem nil_bs (w : World) : Bs w none [] 0 := ⟨Nat.le_refl _, fun _ => rfl, .inl rfl⟩
theorem two_len (fs : List Sg.Fld) (n h : List UInt8) (d : Int) {B : Nat} (hv : ∀ q ∈ fs, q.2.length ≤ B) (hB : n.length + h.length + 94 ≤ B) : ∀ q ∈ Sg.others fs ++ Sg.two d n h, (Lib.itoa d).length ≤ 21 → q.2.length ≤ B := by
  intro q hq hi
  rcases List.mem_append.1 hq with h1 | h1
  · exact hv q (List.mem_filter.1 h1).1
  · simp only [Sg.two, List.mem_cons, List.not_mem_nil, or_false] at h1
    rcases h1 with rfl | rfl
    · simp only; omega
    · simp only [Sg.mark, List.length_append, List.length_cons, List.length_nil]
      have : Sg.scheme.length = 8 := rfl
      omega

theorem fsA_small : ∀ q ∈ fsA, q.2.length ≤ 16777216 := fun q hq =>
  two_len [] [107] _ 12 (B := 16777216) (fun _ h => by cases h) (by rw [SgL.sig_len]; decide) q hq itoa12_len
end Go.Proofs.YtidflagmdabfaaaGreatDoor.SgM
namespace Go.Proofs.YtidflagmdabfaaaGreatDoor.Err
open Go.RowKit Go.Proofs.YtidflagmdabfaaaGreatDoor

abbrev ev (a : Addr) : Value := .iface 288 (.pointer (some a))
theorem infoErr : (Tryz.prog.info? 288).map (·.comparable) = some true := by kernel_rfl
theorem infoErr2 : (Tryz.prog.info? 290).map (·.size) = some 1 := by kernel_rfl
theorem eqErr (a : Addr) (w : World) : (binOp .eql 39 (ev a) (ev a)).run Tryz.prog w = .ok (.bool true) w := by
  obtain ⟨i, hi, hc⟩ := Option.map_eq_some_iff.1 infoErr
  obtain ⟨j, hj, _⟩ := Option.map_eq_some_iff.1 infoErr2
  exact run_eql_iface_ptr_same w a Tryz.underlying39 Tryz.underlying288 hi hc hj
theorem neErr {a b : Addr} {w : World} {ca cb : Array Value} {ta tb : TypeId} (hne : a ≠ b) (ha : w.heap[a.block]? = some (.cells ca ta (0, 0))) (hb : w.heap[b.block]? = some (.cells cb tb (0, 0))) : (binOp .eql 39 (ev a) (ev b)).run Tryz.prog w = .ok (.bool false) w := by
  obtain ⟨i, hi, hc⟩ := Option.map_eq_some_iff.1 infoErr
  obtain ⟨j, hj, hs⟩ := Option.map_eq_some_iff.1 infoErr2
  exact run_eql_iface_ptr_other w Tryz.underlying39 Tryz.underlying288 hi hc hj (by rw [hs]; decide) hne ha hb
/-- an error in its variable -/
structure Er (w : World) (g : Nat) (text : List UInt8) (a : Addr) : Prop where
  cell : w.cell? ⟨g, 0, none⟩ = some (ev a)
  text : ∃ s, w.cell? a = some (.string s) ∧ s.data.toList = text
  block : ∃ c t, w.heap[a.block]? = some (.cells c t (0, 0))
theorem Er.below {w w' : World} {g : Nat} {text : List UInt8} {a : Addr} (h : Er w g text a) (hb : Below w.heap.size w w') : Er w' g text a := by
  obtain ⟨s, h1, h2⟩ := h.text
  obtain ⟨c, t, h3⟩ := h.block
  exact ⟨(hb.cell (p := ⟨g, 0, none⟩) (World.block_lt_of_cell? w _ h.cell)).trans h.cell, ⟨s, (hb.cell (World.block_lt_of_cell? w _ h1)).trans h1, h2⟩, ⟨c, t, (hb.block _ (Array.getElem?_eq_some_iff.1 h3).1).trans h3⟩⟩
theorem Er.ne {w : World} {g g' : Nat} {text text' : List UInt8} {a a' : Addr} (h : Er w g text a) (h' : Er w g' text' a') (ht : text ≠ text') : a ≠ a' := by
  rintro rfl
  obtain ⟨s, h1, h2⟩ := h.text
  obtain ⟨s', h1', h2'⟩ := h'.text
  rw [h1] at h1'
  cases h1'
  exact ht (h2.symm.trans h2')
theorem Er.eq {w : World} {g : Nat} {text : List UInt8} {a a' : Addr} (h : Er w g text a) (h' : w.cell? ⟨g, 0, none⟩ = some (ev a')) : a' = a := by
  have := h'.symm.trans h.cell
  simpa using this

/-- the errors' texts, by number -/
def texts : List (List UInt8) := [[98, 111, 108, 108, 97, 114, 100, 58, 32, 112, 97, 114, 97, 109, 115], [98, 111, 108, 108, 97, 114, 100, 58, 32, 110, 117, 109, 98, 101, 114], [98, 111, 108, 108, 97, 114, 100, 58, 32, 100, 97, 116, 97], [98, 111, 108, 108, 97, 114, 100, 58, 32, 108, 111, 115, 116], [98, 111, 108, 108, 97, 114, 100, 58, 32, 98, 121, 116, 101, 115], [98, 111, 108, 108, 97, 114, 100, 58, 32, 100, 105, 103, 101, 115, 116], [98, 111, 108, 108, 97, 114, 100, 58, 32, 110, 97, 109, 101], [98, 111, 108, 108, 97, 114, 100, 58, 32, 103, 111, 110, 101], [98, 111, 108, 108, 97, 114, 100, 58, 32, 116, 104, 101, 114, 101], [98, 111, 108, 108, 97, 114, 100, 58, 32, 102, 117, 108, 108], [98, 111, 108, 108, 97, 114, 100, 58, 32, 108, 97, 114, 103, 101], [98, 111, 108, 108, 97, 114, 100, 58, 32, 98, 97, 108, 108, 111, 116], [98, 111, 108, 108, 97, 114, 100, 58, 32, 114, 101, 113, 117, 101, 115, 116], [98, 111, 108, 108, 97, 114, 100, 58, 32, 117, 114, 105], [98, 111, 108, 108, 97, 114, 100, 58, 32, 100, 101, 110, 105, 101, 100], [98, 111, 108, 108, 97, 114, 100, 58, 32, 115, 107, 101, 119], [98, 111, 108, 108, 97, 114, 100, 58, 32, 109, 101, 116, 104, 111, 100], [98, 111, 108, 108, 97, 114, 100, 58, 32, 115, 116, 97, 116, 101]]
theorem texts_inj : ∀ i, i < 18 → ∀ j, j < 18 → texts[i]? = texts[j]? → i = j := by decide +kernel
/-- the errors' variables, by number -/
def vars : List Nat := [0, 1, 2, 3, 4, 5, 6, 7, 8, 9, 10, 11, 12, 13, 14, 15, 16, 17]
/-- all of them -/
structure All (w : World) (es : List Addr) : Prop where
  len : es.length = 18
  er : ∀ (i : Nat) (t : List UInt8) (g : Nat) (a : Addr), texts[i]? = some t → vars[i]? = some g → es[i]? = some a → Er w g t a
theorem All.below {w w' : World} {es : List Addr} (h : All w es) (hb : Below w.heap.size w w') : All w' es := ⟨h.len, fun i t g a h1 h2 h3 => (h.er i t g a h1 h2 h3).below hb⟩
theorem All.at {w : World} {es : List Addr} (h : All w es) {i : Nat} (hi : i < 18) : ∃ t g a, texts[i]? = some t ∧ vars[i]? = some g ∧ es[i]? = some a ∧ Er w g t a := by
  have h1 : i < texts.length := hi
  have h2 : i < vars.length := hi
  have h3 : i < es.length := by rw [h.len]; exact hi
  exact ⟨_, _, _, List.getElem?_eq_getElem h1, List.getElem?_eq_getElem h2, List.getElem?_eq_getElem h3, h.er i _ _ _ (List.getElem?_eq_getElem h1) (List.getElem?_eq_getElem h2) (List.getElem?_eq_getElem h3)⟩
theorem All.ne {w : World} {es : List Addr} (h : All w es) {i j : Nat} (hi : i < 18) (hj : j < 18) (hij : i ≠ j) {a b : Addr} (ha : es[i]? = some a) (hb : es[j]? = some b) : a ≠ b := by
  obtain ⟨t, g, a', h1, h2, h3, h4⟩ := h.at hi
  obtain ⟨t', g', b', h1', h2', h3', h4'⟩ := h.at hj
  rw [ha] at h3; cases h3
  rw [hb] at h3'; cases h3'
  refine h4.ne h4' fun e => hij ?_
  subst e
  exact texts_inj i hi j hj (h1.trans h1'.symm)

set_option maxHeartbeats 1000000 in
set_option maxRecDepth 100000 in
theorem num_nil (w : World) : Calls Tryz.prog 19 #[.nilIface] w fun e w' => e = .returned (.int .i64 0) ∧ w = w' := by
  go_enter Tryz.func19, Tryz.ntmps19
  go_wp2
  go_ret
  exact ⟨rfl, rfl⟩

set_option maxHeartbeats 4000000 in
set_option maxRecDepth 100000 in
theorem num (w : World) {es : List Addr} (h : All w es) (k : Nat) (hk : k < 18) {a : Addr} (ha : es[k]? = some a) : Calls Tryz.prog 19 #[ev a] w fun e w' => e = .returned (.int .i64 (k + 1 : Nat)) ∧ Below w.heap.size w w' := by
  have HA := Lib.hid h
  obtain ⟨a0, a1, a2, a3, a4, a5, a6, a7, a8, a9, a10, a11, a12, a13, a14, a15, a16, a17, rfl⟩ : ∃ a0 a1 a2 a3 a4 a5 a6 a7 a8 a9 a10 a11 a12 a13 a14 a15 a16 a17, es = [a0, a1, a2, a3, a4, a5, a6, a7, a8, a9, a10, a11, a12, a13, a14, a15, a16, a17] := by
    have hl := h.len
    match es, hl with
    | [a0, a1, a2, a3, a4, a5, a6, a7, a8, a9, a10, a11, a12, a13, a14, a15, a16, a17], _ => exact ⟨a0, a1, a2, a3, a4, a5, a6, a7, a8, a9, a10, a11, a12, a13, a14, a15, a16, a17, rfl⟩
  have c0 := (h.er 0 _ _ _ rfl rfl rfl).cell
  have c1 := (h.er 1 _ _ _ rfl rfl rfl).cell
  have c2 := (h.er 2 _ _ _ rfl rfl rfl).cell
  have c3 := (h.er 3 _ _ _ rfl rfl rfl).cell
  have c4 := (h.er 4 _ _ _ rfl rfl rfl).cell
  have c5 := (h.er 5 _ _ _ rfl rfl rfl).cell
  have c6 := (h.er 6 _ _ _ rfl rfl rfl).cell
  have c7 := (h.er 7 _ _ _ rfl rfl rfl).cell
  have c8 := (h.er 8 _ _ _ rfl rfl rfl).cell
  have c9 := (h.er 9 _ _ _ rfl rfl rfl).cell
  have c10 := (h.er 10 _ _ _ rfl rfl rfl).cell
  have c11 := (h.er 11 _ _ _ rfl rfl rfl).cell
  have c12 := (h.er 12 _ _ _ rfl rfl rfl).cell
  have c13 := (h.er 13 _ _ _ rfl rfl rfl).cell
  have c14 := (h.er 14 _ _ _ rfl rfl rfl).cell
  have c15 := (h.er 15 _ _ _ rfl rfl rfl).cell
  have c16 := (h.er 16 _ _ _ rfl rfl rfl).cell
  have c17 := (h.er 17 _ _ _ rfl rfl rfl).cell
  have HAT := Lib.hid ha
  clear h ha
  go_enter Tryz.func19, Tryz.ntmps19
  go_wp2
  have hal : Below w.heap.size w (w.alloc (.cells #[ev a0, ev a1, ev a2, ev a3, ev a4, ev a5, ev a6, ev a7, ev a8, ev a9, ev a10, ev a11, ev a12, ev a13, ev a14, ev a15, ev a16, ev a17] 39)) := (Below.refl _ _).alloc (Nat.le_refl _) _
  have hcell : ∀ (j : Nat) (b : Addr), [a0, a1, a2, a3, a4, a5, a6, a7, a8, a9, a10, a11, a12, a13, a14, a15, a16, a17][j]? = some b → (w.alloc (.cells #[ev a0, ev a1, ev a2, ev a3, ev a4, ev a5, ev a6, ev a7, ev a8, ev a9, ev a10, ev a11, ev a12, ev a13, ev a14, ev a15, ev a16, ev a17] 39)).cell? ⟨w.heap.size, j, none⟩ = some (ev b) := by
    intro j b hj
    rw [Lib.cell_of_heap (heap_alloc_new _ _), show (#[ev a0, ev a1, ev a2, ev a3, ev a4, ev a5, ev a6, ev a7, ev a8, ev a9, ev a10, ev a11, ev a12, ev a13, ev a14, ev a15, ev a16, ev a17] : Array Value) = ([a0, a1, a2, a3, a4, a5, a6, a7, a8, a9, a10, a11, a12, a13, a14, a15, a16, a17].map ev).toArray from rfl, List.getElem?_toArray, List.getElem?_map, hj]
    rfl
  have HC := Lib.hid hcell
  have HB := Lib.hid hal
  clear hcell hal
  generalize w.alloc (.cells #[ev a0, ev a1, ev a2, ev a3, ev a4, ev a5, ev a6, ev a7, ev a8, ev a9, ev a10, ev a11, ev a12, ev a13, ev a14, ev a15, ev a16, ev a17] 39) = W at *
  have HL := Lib.hid (show [a0, a1, a2, a3, a4, a5, a6, a7, a8, a9, a10, a11, a12, a13, a14, a15, a16, a17].length = 18 from rfl)
  generalize [a0, a1, a2, a3, a4, a5, a6, a7, a8, a9, a10, a11, a12, a13, a14, a15, a16, a17] = es at *
  go_loopg [29] k (fun g v wr => ∃ j : Nat, j + g = k ∧ v = .int .i64 j ∧ wr = W)
  case atStart => exact ⟨0, by omega, rfl, rfl⟩
  case round =>
    obtain ⟨j, hj, rfl, rfl⟩ := hrel
    have HG := Lib.hid hj
    have hjk : j ≤ k := by omega
    clear hj
    have z0 : (0 : Int) ≤ j := by omega
    have z1 : (j : Int) < 18 := by omega
    by_cases hlt : j < k
    · obtain ⟨b, hb⟩ : ∃ b, es[j]? = some b := ⟨es[j]'(by rw [HL.out]; omega), List.getElem?_eq_getElem _⟩
      have cb := HC.out j b hb
      have hne := HA.out.ne (i := k) (j := j) (by omega) (by omega) (by omega) HAT.out hb
      obtain ⟨_, _, a', _, _, h3, h4⟩ := HA.out.at (i := k) (by omega)
      obtain ⟨_, _, b', _, _, h3', h4'⟩ := HA.out.at (i := j) (by omega)
      rw [HAT.out] at h3; cases h3
      rw [hb] at h3'; cases h3'
      obtain ⟨ca, ta, ha⟩ := (h4.below HB.out).block
      obtain ⟨cb', tb, hbb⟩ := (h4'.below HB.out).block
      have heq := neErr hne ha hbb
      clear hne h4 h4' ha hbb hb
      go_wp2_with fail
      go_roundg (k - (j + 1))
      case measure => have := HG.out; omega
      case rel => exact ⟨j + 1, by omega, by go_num, rfl⟩
    · obtain rfl : j = k := by omega
      have cb := HC.out j a HAT.out
      have heq := eqErr a wr
      go_wp2_with fail
      go_ret
      exact ⟨rfl, HB.out⟩
end Go.Proofs.YtidflagmdabfaaaGreatDoor.Err
namespace Go.Proofs.YtidflagmdabfaaaGreatDoor.SgN
open Go.RowKit Go.Proofs.YtidflagmdabfaaaGreatDoor Go.Proofs.YtidflagmdabfaaaGreatDoor.HtW Go.Proofs.YtidflagmdabfaaaGreatDoor.HtC Go.Proofs.YtidflagmdabfaaaGreatDoor.Ato Go.Proofs.YtidflagmdabfaaaGreatDoor.SgA Go.Proofs.YtidflagmdabfaaaGreatDoor.SgB Go.Proofs.YtidflagmdabfaaaGreatDoor.SgC Go.Proofs.YtidflagmdabfaaaGreatDoor.SgM

set_option maxHeartbeats 4000000 in
set_option maxRecDepth 100000 in
theorem alive (w : World) {aU aR aD aK : Addr} (hE : Env w aU aR aD aK) (hN : Ne w) : Calls Tryz.prog 33 #[] w fun e w' => e = .returned (.bool true) ∧ Below w.heap.size w w' := by
  have E := Lib.hid hE; clear hE
  have HN := Lib.hid hN; clear hN
  have hbA := (Below.refl w.heap.size w).alloc (Nat.le_refl _) (.cells #[.string ⟨#[107]⟩, .string ⟨#[115]⟩] 71)
  have hk0 := heap_alloc_new w (.cells #[.string ⟨#[107]⟩, .string ⟨#[115]⟩] 71)
  have KS := Lib.hid (SgK.sign mG tA [] [] [107] [115] (af := none) 0 0 12 _ (E.out.below hbA) (nil_bs _) (.inl rfl) (by decide) (by decide) (by decide) (by decide) (by decide) (by decide) (by decide) (by decide))
  go_enter Tryz.func33, Tryz.ntmps33
  go_upto_region 3 with (go_at_call 36; refine KS.out.mono ?_; rintro e w2 ⟨hS, hb2⟩; rw [signA] at hS; obtain ⟨af, cf, ab, cb, rfl, hF, hfc, hO⟩ := hS; rw [fsA_len]; have hk2 := (hb2.block w.heap.size (by simp)).trans hk0; have k0 := Lib.cell_of_heap (j := 0) hk2; have k1 := Lib.cell_of_heap (j := 1) hk2)
  have HB2 := Lib.hid (SgK.own_bs hO)
  have HF2 := Lib.hid hF
  have hR3 : Rq w2.heap.size (w2.alloc (.cells #[.string ⟨mG.toArray⟩, .string ⟨tA.toArray⟩, .slice af 2 cf, .slice ab 0 cb] 25)) _ _ _ _ := heap_alloc_new w2 _
  have HB3 := Lib.hid (show Below w.heap.size w w2 from hbA.trans (hb2.mono (by simp)))
  have HB23 := Lib.hid ((Below.refl w2.heap.size w2).alloc (Nat.le_refl _) (.cells #[.string ⟨mG.toArray⟩, .string ⟨tA.toArray⟩, .slice af 2 cf, .slice ab 0 cb] 25))
  have hk3 := (HB23.out.block w.heap.size (Array.getElem?_eq_some_iff.1 hk2).1).trans hk2
  have hl2 : w.heap.size < w2.heap.size := (Array.getElem?_eq_some_iff.1 hk2).1
  clear hO hF hk0 hk2 hb2 k0 k1 KS hbA
  generalize w2.alloc _ = w3 at *
  have hRq := hR3.cells
  obtain ⟨q0, q1, q2, q3, -, -, -, -⟩ := hRq
  have k0 := Lib.cell_of_heap (j := 0) hk3
  have k1 := Lib.cell_of_heap (j := 1) hk3
  -- the first check
  have HB4 := Lib.hid (show Below w2.heap.size w2 (w3.alloc (.cells #[.string ⟨#[107]⟩, .string ⟨#[115]⟩] 71)) from HB23.out.alloc HB23.out.size _)
  have HBW4 := Lib.hid (HB3.out.trans (HB4.out.mono (Nat.le_of_lt hl2)))
  have KC1 := SgK.check mG tA [] fsA [([107], [115])] cb cf 1 112 _ (E.out.below HBW4.out) (HB2.out.below HB4.out) (HF2.out.below HB4.out) (one_key w3 [107] [115]) (HN.out.below HBW4.out) (by decide) (by decide) (by decide) fsA_small (by decide) (by decide) (by decide) (by decide) (by decide)
  rw [checkA, fsA_len] at KC1
  have KC1 := Lib.hid KC1
  go_wp2_with fail
  refine KC1.out.mono ?_
  rintro e w4 ⟨rfl, hb4⟩
  rw [show tv aU aR aD aK (.ok [107]) = .tuple #[.string ⟨[(107 : UInt8)].toArray⟩, .nilIface] from rfl]
  have HB5 := Lib.hid (HB4.out.trans (hb4.mono HB4.out.size))
  have hR4 := (hR3.below ((Below.refl w3.heap.size w3).alloc (Nat.le_refl _) (.cells #[.string ⟨#[107]⟩, .string ⟨#[115]⟩] 71))).below hb4
  have hk4 := (HB5.out.block w.heap.size hl2).trans ((HB23.out.block w.heap.size hl2).symm.trans hk3)
  have hl4 := hR4.lt
  clear q0 q1 q2 q3 k0 k1 KC1 HB4 HBW4 hb4 hR3 hk3
  obtain ⟨q0, q1, q2, q3, -, -, -, f3⟩ := hR4.cells
  have k0 := Lib.cell_of_heap (j := 0) hk4
  have k1 := Lib.cell_of_heap (j := 1) hk4
  go_upto_region 7 with fail
  have hz4 : (w4.setCell ⟨w2.heap.size, 3, none⟩ (.slice (some ⟨w4.heap.size, 0, none⟩) 1 1)).heap.size = w4.heap.size := by simp [World.setCell]
  have hbd := App.one_bs (w4.setCell ⟨w2.heap.size, 3, none⟩ (.slice (some ⟨w4.heap.size, 0, none⟩) 1 1)) 1
  rw [hz4] at hbd
  have hB6 := (HB5.out.setCell (p := ⟨w2.heap.size, 3, none⟩) (Nat.le_refl _) (.slice (some ⟨w4.heap.size, 0, none⟩) 1 1)).alloc (by rw [hz4]; exact HB5.out.size) (.cells #[.int .u8 1] 5)
  have hR6 := (hR4.put4 (.slice (some ⟨w4.heap.size, 0, none⟩) 1 1)).below ((Below.refl _ _).alloc (Nat.le_refl _) (.cells #[.int .u8 1] 5))
  have hk6 := (hB6.block w.heap.size hl2).trans ((HB5.out.block w.heap.size hl2).symm.trans hk4)
  clear q0 q1 q2 q3 k0 k1 f3 hz4 hk4
  change Bs (((w4.setCell ⟨w2.heap.size, 3, none⟩ (.slice (some ⟨w4.heap.size, 0, none⟩) 1 1)).alloc (.cells #[.int .u8 1] 5))) _ _ _ at hbd
  obtain ⟨n4, hn4⟩ : ∃ n4, n4 = w4.heap.size := ⟨_, rfl⟩
  rw [← hn4] at hbd hB6 hR6 hk6 ⊢
  generalize ((w4.setCell ⟨w2.heap.size, 3, none⟩ (.slice (some ⟨n4, 0, none⟩) 1 1)).alloc (.cells #[.int .u8 1] 5)) = w5 at *
  clear hR4 hl4 HB5 hn4
  have HB6 := Lib.hid (show Below w2.heap.size w2 (w5.alloc (.cells #[.string ⟨#[107]⟩, .string ⟨#[115]⟩] 71)) from hB6.alloc hB6.size _)
  have HBW6 := Lib.hid (HB3.out.trans (HB6.out.mono (Nat.le_of_lt hl2)))
  have KC2 := SgK.check mG tA [1] fsA [([107], [115])] 1 cf 1 12 _ (E.out.below HBW6.out) (hbd.below ((Below.refl w5.heap.size w5).alloc (Nat.le_refl _) _)) (HF2.out.below HB6.out) (one_key w5 [107] [115]) (HN.out.below HBW6.out) (by decide) (by decide) (by decide) fsA_small (by decide) (by decide) (by decide) (by decide) (by decide)
  rw [checkB, fsA_len] at KC2
  have KC2 := Lib.hid KC2
  obtain ⟨q0, q1, q2, q3, -, -, -, -⟩ := hR6.cells
  have k0 := Lib.cell_of_heap (j := 0) hk6
  have k1 := Lib.cell_of_heap (j := 1) hk6
  go_wp2_with fail
  refine KC2.out.mono ?_
  rintro e w6 ⟨rfl, hb6⟩
  rw [show tv aU aR aD aK (.no .denied) = .tuple #[.string ⟨#[]⟩, ev aD] from rfl]
  have hBE := HBW6.out.trans (hb6.mono HBW6.out.size)
  have qd := (E.out.below hBE).den
  have he := fun W => Err.eqErr aD W
  clear q0 q1 q2 q3 k0 k1 KC2
  go_wp2_with fail
  go_ret
  exact ⟨rfl, hBE⟩
end Go.Proofs.YtidflagmdabfaaaGreatDoor.SgN
