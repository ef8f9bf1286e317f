/-
  The walks of package wire's Reader: Num, Bytes, Left, End; of wire.Open. The walks of package wire's Left, End, Open; of frame.inForm. The walks of package frame's inForm and split. The walk of package frame's split.
-/
import Derived.Test.YtecnnlppinhmgaaGreatDoorSa01
import Derived.Test.YtecnnlppinhmgaaGreatDoorSa08
import Derived.StillTailTactics
import Derived.Deep.MidRow
namespace Go.Proofs.YtecnnlppinhmgaaGreatDoor.FrE
open Go.RowKit Go.Proofs.YtecnnlppinhmgaaGreatDoor Go.Proofs.YtecnnlppinhmgaaGreatDoor.HtW Go.Proofs.YtecnnlppinhmgaaGreatDoor.HtX Go.Proofs.YtecnnlppinhmgaaGreatDoor.App Go.Proofs.YtecnnlppinhmgaaGreatDoor.FrA Go.Proofs.YtecnnlppinhmgaaGreatDoor.FrC Go.Proofs.YtecnnlppinhmgaaGreatDoor.FrD

/-- the two errors of bytes -/
structure Ev (w : World) (aB aD : Addr) : Prop where
  bytes : w.cell? ⟨3, 0, none⟩ = some (Err.ev aB)
  digest : w.cell? ⟨4, 0, none⟩ = some (Err.ev aD)
theorem Ev.below {w w' : World} {aB aD : Addr} (h : Ev w aB aD) (hb : Below w.heap.size w w') : Ev w' aB aD :=
  ⟨(hb.cell (World.block_lt_of_cell? w _ h.bytes)).trans h.bytes, (hb.cell (World.block_lt_of_cell? w _ h.digest)).trans h.digest⟩
theorem rd_cells {B : Nat} {w : World} {l : List UInt8} {p : Nat} (h : Rd B w l p) : ∃ a c, w.cell? ⟨B, 0, none⟩ = some (.slice a l.length c) ∧ w.cell? ⟨B, 1, none⟩ = some (.int .i64 (p : Int)) ∧ w.frozen? ⟨B, 1, none⟩ = false ∧ Bs w a l c ∧ (l ≠ [] → ∀ q, a = some q → q.block < B) := by
  obtain ⟨a, c, h1, h2, h3⟩ := h
  exact ⟨a, c, by rw [Lib.cell_of_heap h1]; rfl, by rw [Lib.cell_of_heap h1]; rfl, Lib.frozen_of_heap h1 1, h2, h3⟩
theorem rd_put {B : Nat} {w : World} {l : List UInt8} {p : Nat} (h : Rd B w l p) (q : Nat) : Rd B (w.setCell ⟨B, 1, none⟩ (.int .i64 (q : Int))) l q := by
  obtain ⟨a, c, h1, h2, h3⟩ := h
  refine ⟨a, c, by simp only [World.setCell, Array.getElem?_modify, if_true, h1]; rfl, ⟨h2.1, h2.2.1, h2.2.2.imp id fun ⟨b, o, k1, k2, k3⟩ => ⟨b, o, k1, by simpa [World.setCell] using k2, fun j x hj => ?_⟩⟩, h3⟩
  have hne : l ≠ [] := fun h0 => by rw [h0] at hj; simp at hj
  have hn : b ≠ B := Nat.ne_of_lt (h3 hne _ k1)
  exact (World.cell?_of_block (w := w) (a := ⟨b, o + j, none⟩) (Below.heap_setCell _ _ _ _ (fun h => hn h))).trans (k3 j x hj)
theorem rd_drew {B : Nat} {w : World} {l : List UInt8} {p : Nat} (h : Rd B w l p) : ∀ n, Rd B (w.drewN n) l p := fun n => h.below (below_drewN (Below.refl _ _) n)
theorem keep_drewN (l : List Nat) (w : World) : ∀ n, Dw.Keep l w (w.drewN n)
  | 0 => Dw.Keep.refl l w
  | n + 1 => (keep_drewN l w n).drew

set_option maxHeartbeats 2000000 in
set_option maxRecDepth 100000 in
theorem num_ok (B : Nat) (l : List UInt8) (p most n m : Nat) (w : World) (h : Rd B w l p) (hl : l.length ≤ 140737488351232) (hp : p ≤ 140737488351232) (hr : Fp.rd (l.drop p) = some (n, m)) (hn : n ≤ most) :
    Calls Tryz.prog 74 #[.pointer (some ⟨B, 0, none⟩), .int .i64 (most : Int)] w fun e w' => e = .returned (.tuple #[.int .i64 (n : Int), .nilIface]) ∧ Rd B w' l (p + m) ∧ Dw.Keep [B] w w' := by
  have KN := Lib.hid (number B l p p w h hl hp)
  rw [hr] at KN
  obtain ⟨a, c, c0, c1, f1, -, -⟩ := rd_cells h
  have HR := Lib.hid h
  have e1 : decide ((most : Int) < (n : Int)) = false := decide_eq_false (by omega)
  clear h hr
  go_enter Tryz.func74, Tryz.ntmps74
  go_wp2_with (go_at_call 100; refine KN.out.mono ?_; rintro e w1 ⟨he, rfl⟩; obtain rfl : e = _ := he)
  go_ret2
  exact ⟨rfl, by have := rd_put HR.out (p + m); rwa [Int.natCast_add] at this, (Dw.Keep.refl _ _).setCell (.inl (by simp)) _⟩

set_option maxHeartbeats 2000000 in
set_option maxRecDepth 100000 in
theorem num_no (B : Nat) (l : List UInt8) (p most : Nat) (w : World) {aB aD : Addr} (hE : Ev w aB aD) (h : Rd B w l p) (hl : l.length ≤ 140737488351232) (hp : p ≤ 140737488351232) (hr : ∀ n m, Fp.rd (l.drop p) = some (n, m) → most < n) :
    Calls Tryz.prog 74 #[.pointer (some ⟨B, 0, none⟩), .int .i64 (most : Int)] w fun e w' => e = .returned (.tuple #[.int .i64 0, Err.ev aB]) ∧ ∃ k, w' = w.drewN k := by
  have KN := Lib.hid (number B l p p w h hl hp)
  obtain ⟨a, c, c0, c1, f1, -, -⟩ := rd_cells h
  have cB := hE.bytes
  obtain ⟨r, hrr⟩ : ∃ r, r = Fp.rd (l.drop p) := ⟨_, rfl⟩
  rw [← hrr] at KN hr
  clear h hrr hE
  go_enter Tryz.func74, Tryz.ntmps74
  rcases r with _ | ⟨n, m⟩
  · go_upto_region 3 with (go_at_call 100; refine KN.out.mono ?_; rintro e w1 ⟨⟨n, m, rfl⟩, rfl⟩)
    go_quiet (fail)
    go_wp2_with fail
    go_ret2
    exact ⟨rfl, _, rfl⟩
  · have e1 : decide ((most : Int) < (n : Int)) = true := decide_eq_true (by have := hr n m rfl; omega)
    have e2 : most < n := hr n m rfl
    clear hr
    go_upto_region 3 with (go_at_call 100; refine KN.out.mono ?_; rintro e w1 ⟨he, rfl⟩; obtain rfl : e = _ := he)
    go_quiet (fail)
    go_wp2_with fail
    go_ret2
    exact ⟨rfl, _, rfl⟩

set_option maxHeartbeats 2000000 in
set_option maxRecDepth 100000 in
theorem bytes_no (B : Nat) (l : List UInt8) (p most : Nat) (w : World) {aB aD : Addr} (hE : Ev w aB aD) (h : Rd B w l p) (hl : l.length ≤ 140737488351232) (hp : p ≤ 140737488351232) (hr : ∀ n m, Fp.rd (l.drop p) = some (n, m) → most < n ∨ l.length < p + m + n) (hm : ∀ n m, Fp.rd (l.drop p) = some (n, m) → p + m ≤ l.length ∧ n ≤ 9223372036854775807) :
    Calls Tryz.prog 72 #[.pointer (some ⟨B, 0, none⟩), .int .i64 (most : Int)] w fun e w' => e = .returned (.tuple #[.slice none 0 0, Err.ev aB]) ∧ ∃ k, w' = w.drewN k := by
  have KN := Lib.hid (number B l p p w h hl hp)
  obtain ⟨a, c, c0, c1, f1, -, -⟩ := rd_cells h
  have cB := hE.bytes
  obtain ⟨r, hrr⟩ : ∃ r, r = Fp.rd (l.drop p) := ⟨_, rfl⟩
  rw [← hrr] at KN hr hm
  clear h hrr hE
  go_enter Tryz.func72, Tryz.ntmps72
  rcases r with _ | ⟨n, m⟩
  · go_upto_region 3 with (go_at_call 100; refine KN.out.mono ?_; rintro e w1 ⟨⟨n, m, rfl⟩, rfl⟩)
    go_quiet (fail)
    go_wp2_with fail
    go_ret2
    exact ⟨rfl, _, rfl⟩
  · obtain ⟨m1, m2⟩ := hm n m rfl
    have h0 := hr n m rfl
    clear hr hm
    by_cases hmn : most < n
    · have e1 : decide ((most : Int) < (n : Int)) = true := decide_eq_true (by omega)
      clear h0
      go_upto_region 3 with (go_at_call 100; refine KN.out.mono ?_; rintro e w1 ⟨he, rfl⟩; obtain rfl : e = _ := he)
      go_quiet (fail)
      go_wp2_with fail
      go_ret2
      exact ⟨rfl, _, rfl⟩
    · have e1 : decide ((most : Int) < (n : Int)) = false := decide_eq_false (by omega)
      have e2 : (l.length : Int) - ((p : Int) + (m : Int)) < (n : Int) := by omega
      have e3 : decide ((l.length : Int) - ((p : Int) + (m : Int)) < (n : Int)) = true := decide_eq_true e2
      have H0 := Lib.hid h0
      clear h0
      go_upto_region 3 with (go_at_call 100; refine KN.out.mono ?_; rintro e w1 ⟨he, rfl⟩; obtain rfl : e = _ := he)
      go_quiet (fail)
      go_wp2_with fail
      go_ret2
      exact ⟨rfl, _, rfl⟩

set_option maxHeartbeats 2000000 in
set_option maxRecDepth 100000 in
theorem bytes_ok (B : Nat) (l : List UInt8) (p most n m : Nat) (w : World) (h : Rd B w l p) (hl : l.length ≤ 140737488351232) (hr : Fp.rd (l.drop p) = some (n, m)) (hn : n ≤ most) (hm : p + m + n ≤ l.length) :
    Calls Tryz.prog 72 #[.pointer (some ⟨B, 0, none⟩), .int .i64 (most : Int)] w fun e w' => ∃ a' c', e = .returned (.tuple #[.slice a' n c', .nilIface]) ∧ Bs w' a' ((l.drop (p + m)).take n) c' ∧ Rd B w' l (p + m + n) ∧ Dw.Keep [B] w w' := by
  have KN := Lib.hid (number B l p p w h hl (by omega))
  rw [hr] at KN
  obtain ⟨a, c, c0, c1, f1, hb, -⟩ := rd_cells h
  have HR := Lib.hid h
  have e1 : decide ((most : Int) < (n : Int)) = false := decide_eq_false (by omega)
  have e3 : decide ((l.length : Int) - ((p : Int) + (m : Int)) < (n : Int)) = false := decide_eq_false (by omega)
  clear h hr
  go_enter Tryz.func72, Tryz.ntmps72
  go_upto_region 5 with (go_at_call 100; refine KN.out.mono ?_; rintro e w1 ⟨he, rfl⟩; obtain rfl : e = _ := he)
  obtain ⟨w2, hw2, hR2, hk2⟩ : ∃ w2, w2 = w.setCell ⟨B, 1, none⟩ (.int .i64 ((p : Int) + (m : Int) + (n : Int))) ∧ Rd B w2 l (p + m + n) ∧ Dw.Keep [B] w w2 :=
    ⟨_, rfl, by have := rd_put HR.out (p + m + n); rwa [Int.natCast_add, Int.natCast_add] at this, (Dw.Keep.refl _ _).setCell (.inl (by simp)) _⟩
  rw [← hw2]
  clear hw2 c0 c1 f1 hb HR e1 e3 KN
  obtain ⟨a2, c2, d0, d1, -, hb2, -⟩ := rd_cells hR2
  have d1' : w2.cell? ⟨B, 1, none⟩ = some (.int .i64 ((p : Int) + (m : Int) + (n : Int))) := by rw [d1, Int.natCast_add, Int.natCast_add]
  obtain ⟨a', hsl, hbm⟩ := Mid.mid hb2 (p + m) n hm ((p : Int) + (m : Int)) ((p : Int) + (m : Int) + (n : Int)) (by omega) (by omega)
  have hln : ((l.drop (p + m)).take n).length = n := by rw [List.length_take, List.length_drop]; omega
  obtain ⟨T, hT⟩ : ∃ T, T = (l.drop (p + m)).take n := ⟨_, rfl⟩
  rw [← hT] at hbm hln
  have hTl : T.length ≤ 140737488351232 := by omega
  have KC := Lib.hid (DiskA.clone a' T (c2 - (p + m)) w2.drew hTl (to_dw (hbm.below (Below.refl _ _).drew)))
  rw [hln] at KC
  have HT := Lib.hid hT
  have HR3 := Lib.hid (hR2.below (Below.refl _ _).drew)
  have HK3 := Lib.hid hk2.drew
  clear hT hTl d1 hbm hb2
  go_still_tail 10, (by kernel_rfl)
  change wpList _ _ _ _ _ w2.drew
  generalize w2.drew = w3 at *
  go_wp2_with (go_at_call 36; refine KC.out.mono ?_; rintro e w4 ⟨⟨a4, c4, rfl, hB4⟩, hb4⟩)
  go_ret2
  rw [← HT.out]
  exact ⟨a4, c4, rfl, of_dw hB4, HR3.out.below hb4, HK3.out.trans (Dw.Keep.of_below hb4 _)⟩
end Go.Proofs.YtecnnlppinhmgaaGreatDoor.FrE
namespace Go.Proofs.YtecnnlppinhmgaaGreatDoor.FrF
open Go.RowKit Go.Proofs.YtecnnlppinhmgaaGreatDoor Go.Proofs.YtecnnlppinhmgaaGreatDoor.HtW Go.Proofs.YtecnnlppinhmgaaGreatDoor.HtX Go.Proofs.YtecnnlppinhmgaaGreatDoor.App Go.Proofs.YtecnnlppinhmgaaGreatDoor.FrA Go.Proofs.YtecnnlppinhmgaaGreatDoor.FrB Go.Proofs.YtecnnlppinhmgaaGreatDoor.FrC Go.Proofs.YtecnnlppinhmgaaGreatDoor.FrD Go.Proofs.YtecnnlppinhmgaaGreatDoor.FrE

set_option maxHeartbeats 2000000 in
set_option maxRecDepth 100000 in
theorem left (B : Nat) (l : List UInt8) (p : Nat) (w : World) (h : Rd B w l p) (hl : l.length ≤ 140737488351232) (hp : p ≤ 140737488351232) :
    Calls Tryz.prog 77 #[.pointer (some ⟨B, 0, none⟩)] w fun e w' => e = .returned (.int .i64 ((l.length : Int) - (p : Int))) ∧ ∃ k, w' = w.drewN k := by
  obtain ⟨a, c, c0, c1, f1, -, -⟩ := rd_cells h
  clear h
  go_enter Tryz.func77, Tryz.ntmps77
  go_upto_region 1 with fail
  go_quiet (fail)
  go_wp2_with fail
  go_ret
  exact ⟨rfl, _, rfl⟩

def endV (aB : Addr) (p n : Nat) : Value := if p = n then .nilIface else Err.ev aB
set_option maxHeartbeats 2000000 in
set_option maxRecDepth 100000 in
theorem atEnd (B : Nat) (l : List UInt8) (p : Nat) (w : World) {aB aD : Addr} (hE : Ev w aB aD) (h : Rd B w l p) (hl : l.length ≤ 140737488351232) (hp : p ≤ l.length) :
    Calls Tryz.prog 75 #[.pointer (some ⟨B, 0, none⟩)] w fun e w' => e = .returned (endV aB p l.length) ∧ ∃ k, w' = w.drewN k := by
  have KL := Lib.hid (left B l p w h hl (by omega))
  have HE := Lib.hid hE
  clear h hE
  go_enter Tryz.func75, Tryz.ntmps75
  by_cases h0 : p = l.length
  · have e0 : decide (p < l.length) = false := decide_eq_false (by omega)
    have H0 := Lib.hid h0
    clear h0
    go_wp2_with (go_at_call 77; refine KL.out.mono ?_; rintro e w1 ⟨rfl, k1, rfl⟩)
    go_ret
    rw [endV, if_pos H0.out]
    exact ⟨rfl, _, rfl⟩
  · have e0 : decide (p < l.length) = true := decide_eq_true (by omega)
    have H0 := Lib.hid h0
    clear h0
    go_wp2_with (go_at_call 77; refine KL.out.mono ?_; rintro e w1 ⟨rfl, k1, hw1⟩; have HW1 := Lib.hid hw1; have cB : w1.cell? ⟨3, 0, none⟩ = some (Err.ev aB) := (by rw [hw1]; exact (HE.out.below (below_drewN (Below.refl _ _) k1)).bytes); clear hw1)
    go_ret
    rw [endV, if_neg H0.out]
    exact ⟨rfl, _, HW1.out⟩

/-- what Open answers -/
def OPost (aB aD : Addr) (w' : World) : Except Nat (List UInt8) → Ending → Prop
  | .error k, e => e = .returned (.tuple #[.slice none 0 0, Err.ev (if k = 4 then aB else aD)])
  | .ok o, e => ∃ a' c', e = .returned (.tuple #[.slice a' o.length c', .nilIface]) ∧ Bs w' a' o c'

set_option maxHeartbeats 2000000 in
set_option maxRecDepth 100000 in
theorem openW (l : List UInt8) {a : Option Addr} (c : Nat) (w : World) {aB aD : Addr} (hE : Ev w aB aD) (hb : Bs w a l c) (hl : l.length ≤ 140737488351232) :
    Calls Tryz.prog 73 #[.slice a l.length c] w fun e w' => OPost aB aD w' (Fp.openB l) e ∧ Below w.heap.size w w' := by
  have cB := hE.bytes
  have HB := Lib.hid hb
  go_enter Tryz.func73, Tryz.ntmps73
  by_cases h4 : l.length < 4
  · have e4 : decide ((l.length : Int) - 4 < 0) = true := decide_eq_true (by omega)
    have HO := Lib.hid (show Fp.openB l = .error 4 by unfold Fp.openB; rw [if_pos h4])
    go_upto_region 3 with fail
    go_quiet (fail)
    go_wp2_with fail
    go_ret2
    rw [HO.out]
    exact ⟨rfl, below_drewN (Below.refl _ _) _⟩
  · have e4 : decide ((l.length : Int) - 4 < 0) = false := decide_eq_false (by omega)
    obtain ⟨n, hn⟩ : ∃ n, l.length = n + 4 := ⟨l.length - 4, by omega⟩
    have en : (l.length : Int) - 4 = (n : Int) := by omega
    obtain ⟨a', hsl, hbm⟩ := Mid.pre hb n (by omega) (n : Int) rfl
    have hln : (l.take n).length = n := by rw [List.length_take]; omega
    obtain ⟨T, hT⟩ : ∃ T, T = l.take n := ⟨_, rfl⟩
    rw [← hT] at hbm hln
    have HT := Lib.hid hT
    have HBM := Lib.hid hbm
    have KS := Lib.hid (sealW T c w hbm (by omega))
    rw [hln] at KS
    have en2 : IntKind.i64.wrap ((l.length : Int) - 4) = (n : Int) := by rw [en]; exact IntWalk.i64_in _ ⟨by omega, by omega⟩
    have hTl : T.length ≤ 140737488351232 := by omega
    have HST := Lib.hid (show (Fp.sealB T).length ≤ 140737488351232 by have := Fp.seal_len T; omega)
    have h0 : (0 : Int) ≤ (n : Int) := by omega
    have HEN := Lib.hid en
    obtain ⟨q, hq⟩ : ∃ q, eqB (Fp.sealB T) l = q := ⟨_, rfl⟩
    have HQ := Lib.hid hq
    have HN := Lib.hid hn
    clear hT hbm hn h4
    go_upto_region 4 with fail
    cases q
    · have HO := Lib.hid (show Fp.openB l = .error 5 by
        unfold Fp.openB
        rw [if_neg (by have := HN.out; omega), if_neg]
        intro h
        rw [show l.length - 4 = n by have := HN.out; omega, ← HT.out] at h
        have := HQ.out
        rw [h] at this
        simp [eqB] at this)
      clear hq
      go_upto_region 5 with (first
        | (go_at_call 101; refine KS.out.mono ?_; rintro e w1 ⟨v1, rfl, ⟨ar, cr, rfl⟩, ho1, hb1⟩; have HB1 := Lib.hid hb1; have hx1 := (bs_own ho1).1; have KE := Lib.hid (equal (Fp.sealB T) l cr c w1 hx1 (HB.out.below hb1) HST.out hl); rw [HQ.out] at KE; clear ho1 hx1 hb1)
        | (go_at_call 53; refine KE.out.mono ?_; rintro e w2 ⟨rfl, hb2⟩; have hb12 := HB1.out.trans (hb2.mono HB1.out.size); have cD := (hE.below hb12).digest; have HB2 := Lib.hid hb12; clear hb2 hb12))
      go_quiet (fail)
      go_wp2_with fail
      go_ret2
      rw [HO.out]
      exact ⟨rfl, below_drewN HB2.out _⟩
    · have HO := Lib.hid (show Fp.openB l = .ok T by
        unfold Fp.openB
        have h := HQ.out
        unfold eqB at h
        rw [if_neg (by have := HN.out; omega), show l.length - 4 = n by have := HN.out; omega, ← HT.out, if_pos (beq_iff_eq.1 h)])
      clear hq
      go_wp2_with (first
        | (go_at_call 101; refine KS.out.mono ?_; rintro e w1 ⟨v1, rfl, ⟨ar, cr, rfl⟩, ho1, hb1⟩; have HB1 := Lib.hid hb1; have hx1 := (bs_own ho1).1; have KE := Lib.hid (equal (Fp.sealB T) l cr c w1 hx1 (HB.out.below hb1) HST.out hl); rw [HQ.out] at KE; clear ho1 hx1 hb1)
        | (go_at_call 53; refine KE.out.mono ?_; rintro e w2 ⟨rfl, hb2⟩; have hb12 := HB1.out.trans (hb2.mono HB1.out.size); have HB2 := Lib.hid hb12; have KC := Lib.hid (DiskA.clone a' T c w2 hTl (to_dw (HBM.out.below hb12))); rw [hln] at KC; clear hb2 hb12)
        | (go_at_call 36; refine KC.out.mono ?_; rintro e w3 ⟨⟨a3, c3, rfl, hB3⟩, hb3⟩))
      go_ret2
      rw [HO.out]
      exact ⟨⟨a3, c3, by rw [hln]; rfl, of_dw hB3⟩, HB2.out.trans (hb3.mono HB2.out.size)⟩
end Go.Proofs.YtecnnlppinhmgaaGreatDoor.FrF
namespace Go.Proofs.YtecnnlppinhmgaaGreatDoor.FrG
open Go.RowKit Go.Proofs.YtecnnlppinhmgaaGreatDoor Go.Proofs.YtecnnlppinhmgaaGreatDoor.HtW Go.Proofs.YtecnnlppinhmgaaGreatDoor.HtX Go.Proofs.YtecnnlppinhmgaaGreatDoor.App Go.Proofs.YtecnnlppinhmgaaGreatDoor.FrA Go.Proofs.YtecnnlppinhmgaaGreatDoor.FrC Go.Proofs.YtecnnlppinhmgaaGreatDoor.FrD Go.Proofs.YtecnnlppinhmgaaGreatDoor.FrE Go.Proofs.YtecnnlppinhmgaaGreatDoor.FrF

/-- a stamp's cells -/
abbrev sc (s : Fp.Stamp) : Array Value := #[.int .i64 (s.node : Int), .int .i64 (s.boot : Int), .int .i64 (s.seq : Int), .int .i64 (s.shard : Int), .int .i64 (s.size : Int)]
abbrev sc0 : Array Value := #[.int .i64 0, .int .i64 0, .int .i64 0, .int .i64 0, .int .i64 0]
def fitsB (s : Fp.Stamp) : Bool := decide s.fits
theorem ret_bool {a b : Bool} (h : a = b) : Ending.returned (.bool a) = .returned (.bool b) := by rw [h]

set_option maxHeartbeats 2000000 in
set_option maxRecDepth 100000 in
theorem inForm (s : Fp.Stamp) (w : World) :
    Calls Tryz.prog 76 #[.agg (sc s)] w fun e w' => e = .returned (.bool (fitsB s)) ∧ Below w.heap.size w w' := by
  obtain ⟨w1, hw1, hb1, hx1⟩ : ∃ w1, w1 = w.alloc (.cells (sc s) 34) ∧ Below w.heap.size w w1 ∧ w1.heap[w.heap.size]? = some (.cells (sc s) 34 (0, 0)) := ⟨_, rfl, (Below.refl _ _).alloc (Nat.le_refl _) _, heap_alloc_new _ _⟩
  go_enter Tryz.func76, Tryz.ntmps76
  obtain ⟨w2, hw2, hb2, hx2⟩ : ∃ w2, w2 = w1.alloc (.cells #[.int .i64 (s.node : Int), .int .i64 (s.boot : Int), .int .i64 (s.seq : Int)] 23) ∧ Below w1.heap.size w1 w2 ∧ w2.heap[w1.heap.size]? = some (.cells #[.int .i64 (s.node : Int), .int .i64 (s.boot : Int), .int .i64 (s.seq : Int)] 23 (0, 0)) := ⟨_, rfl, (Below.refl _ _).alloc (Nat.le_refl _) _, heap_alloc_new _ _⟩
  have c0 : w1.cell? ⟨w.heap.size, 0, none⟩ = some (.int .i64 (s.node : Int)) := by rw [Lib.cell_of_heap hx1]; rfl
  have c1 : w1.cell? ⟨w.heap.size, 1, none⟩ = some (.int .i64 (s.boot : Int)) := by rw [Lib.cell_of_heap hx1]; rfl
  have c2 : w1.cell? ⟨w.heap.size, 2, none⟩ = some (.int .i64 (s.seq : Int)) := by rw [Lib.cell_of_heap hx1]; rfl
  have hlt := (Array.getElem?_eq_some_iff.1 hx1).1
  have d3 : w2.cell? ⟨w.heap.size, 3, none⟩ = some (.int .i64 (s.shard : Int)) := by rw [hb2.cell (p := ⟨w.heap.size, 3, none⟩) hlt, Lib.cell_of_heap hx1]; rfl
  have d4 : w2.cell? ⟨w.heap.size, 4, none⟩ = some (.int .i64 (s.size : Int)) := by rw [hb2.cell (p := ⟨w.heap.size, 4, none⟩) hlt, Lib.cell_of_heap hx1]; rfl
  have g0 : w2.cell? ⟨w1.heap.size, 0, none⟩ = some (.int .i64 (s.node : Int)) := by rw [Lib.cell_of_heap hx2]; rfl
  have g1 : w2.cell? ⟨w1.heap.size, 1, none⟩ = some (.int .i64 (s.boot : Int)) := by rw [Lib.cell_of_heap hx2]; rfl
  have g2 : w2.cell? ⟨w1.heap.size, 2, none⟩ = some (.int .i64 (s.seq : Int)) := by rw [Lib.cell_of_heap hx2]; rfl
  have HB := Lib.hid (hb1.trans (hb2.mono hb1.size))
  clear hx1 hx2 hb1 hb2 hlt
  go_upto_region 1 with fail
  rw [← hw1]
  clear hw1
  go_upto_region 2 with fail
  rw [← hw2]
  clear hw2 c0 c1 c2
  by_cases h0 : s.node < 16
  case neg =>
    have e0 : decide ((s.node : Int) < 16) = false := decide_eq_false (by omega)
    have HF := Lib.hid (show fitsB s = false from decide_eq_false fun h => h0 h.1)
    clear h0
    go_wp2_with fail
    go_ret
    exact ⟨ret_bool HF.out.symm, HB.out⟩
  have e0 : decide ((s.node : Int) < 16) = true := decide_eq_true (by omega)
  by_cases h1 : s.boot ≤ 1099511627776
  case neg =>
    have e1 : decide ((s.boot : Int) ≤ 1099511627776) = false := decide_eq_false (by omega)
    have HF := Lib.hid (show fitsB s = false from decide_eq_false fun h => h1 h.2.1)
    clear h1
    go_wp2_with fail
    go_ret
    exact ⟨ret_bool HF.out.symm, HB.out⟩
  have e1 : decide ((s.boot : Int) ≤ 1099511627776) = true := decide_eq_true (by omega)
  by_cases h2 : s.seq ≤ 1099511627776
  case neg =>
    have e2 : decide ((s.seq : Int) ≤ 1099511627776) = false := decide_eq_false (by omega)
    have HF := Lib.hid (show fitsB s = false from decide_eq_false fun h => h2 h.2.2.1)
    clear h2
    go_wp2_with fail
    go_ret
    exact ⟨ret_bool HF.out.symm, HB.out⟩
  have e2 : decide ((s.seq : Int) ≤ 1099511627776) = true := decide_eq_true (by omega)
  by_cases h3 : s.shard < 16
  case neg =>
    have e3 : decide ((s.shard : Int) < 16) = false := decide_eq_false (by omega)
    have HF := Lib.hid (show fitsB s = false from decide_eq_false fun h => h3 h.2.2.2.1)
    clear h3
    go_wp2_with fail
    go_ret
    exact ⟨ret_bool HF.out.symm, HB.out⟩
  have e3 : decide ((s.shard : Int) < 16) = true := decide_eq_true (by omega)
  by_cases h4 : s.size ≤ 1024
  case neg =>
    have e4 : decide ((s.size : Int) ≤ 1024) = false := decide_eq_false (by omega)
    have HF := Lib.hid (show fitsB s = false from decide_eq_false fun h => h4 h.2.2.2.2)
    clear h4
    go_wp2_with fail
    go_ret
    exact ⟨ret_bool HF.out.symm, HB.out⟩
  have e4 : decide ((s.size : Int) ≤ 1024) = true := decide_eq_true (by omega)
  have HF := Lib.hid (show fitsB s = true from decide_eq_true ⟨h0, h1, h2, h3, h4⟩)
  clear h0 h1 h2 h3 h4
  go_wp2_with fail
  go_ret
  exact ⟨ret_bool HF.out.symm, HB.out⟩

theorem results4 {fn : Func} {p t u v : Tmp} {ty : TypeId} (h : fn.results = #[.cell p ty, .tmp t, .tmp u, .tmp v]) (tmps : Array Value) (P : Program) (w : World) :
    (results fn tmps).run P w = ((asAddr (tmps.getD p undef)).run P w).andThen fun a w₁ => ((loadVar ty a).run P w₁).andThen fun x w₂ => .ok (.tuple #[x, tmps.getD t undef, tmps.getD u undef, tmps.getD v undef]) w₂ := by
  simp only [results, h]
  simp [Sem.run_bind, Result.andThen]
theorem results3 {fn : Func} {p t u : Tmp} {ty : TypeId} (h : fn.results = #[.cell p ty, .tmp t, .tmp u]) (tmps : Array Value) (P : Program) (w : World) :
    (results fn tmps).run P w = ((asAddr (tmps.getD p undef)).run P w).andThen fun a w₁ => ((loadVar ty a).run P w₁).andThen fun x w₂ => .ok (.tuple #[x, tmps.getD t undef, tmps.getD u undef]) w₂ := by
  simp only [results, h]
  simp [Sem.run_bind, Result.andThen]
theorem stamp_size : (Tryz.prog.info? 34).map (·.size) = some 5 := by kernel_rfl
theorem res_split {w : World} {g : Nat} {C : Array Value} {fr : Nat × Nat} {b c d : Value} {fn : Func} {tmps : Array Value} (hg : w.heap[g]? = some (.cells C 34 fr)) (hs : C.size = 5) (e : fn.results = #[.cell 2 34, .tmp 3, .tmp 4, .tmp 5]) (h2 : tmps.getD 2 undef = .pointer (some ⟨g, 0, none⟩)) (h3 : tmps.getD 3 undef = b) (h4 : tmps.getD 4 undef = c) (h5 : tmps.getD 5 undef = d) :
    (results fn tmps).run Tryz.prog w = .ok (.tuple #[.agg C, b, c, d]) w := by
  rw [results4 e, h2, h3, h4, h5]
  simp [asAddr, Result.andThen, run_loadVar_row w g 34 34 C fr _ hg Tryz.underlying34 rfl (stamp_size.trans (congrArg some hs.symm))]
theorem res_get {w : World} {g : Nat} {C : Array Value} {fr : Nat × Nat} {b c : Value} {fn : Func} {tmps : Array Value} (hg : w.heap[g]? = some (.cells C 34 fr)) (hs : C.size = 5) (e : fn.results = #[.cell 2 34, .tmp 3, .tmp 4]) (h2 : tmps.getD 2 undef = .pointer (some ⟨g, 0, none⟩)) (h3 : tmps.getD 3 undef = b) (h4 : tmps.getD 4 undef = c) :
    (results fn tmps).run Tryz.prog w = .ok (.tuple #[.agg C, b, c]) w := by
  rw [results3 e, h2, h3, h4]
  simp [asAddr, Result.andThen, run_loadVar_row w g 34 34 C fr _ hg Tryz.underlying34 rfl (stamp_size.trans (congrArg some hs.symm))]
end Go.Proofs.YtecnnlppinhmgaaGreatDoor.FrG
namespace Go.Proofs.YtecnnlppinhmgaaGreatDoor.FrH
open Go.RowKit Go.Proofs.YtecnnlppinhmgaaGreatDoor Go.Proofs.YtecnnlppinhmgaaGreatDoor.HtW Go.Proofs.YtecnnlppinhmgaaGreatDoor.HtX Go.Proofs.YtecnnlppinhmgaaGreatDoor.App Go.Proofs.YtecnnlppinhmgaaGreatDoor.FrA Go.Proofs.YtecnnlppinhmgaaGreatDoor.FrC Go.Proofs.YtecnnlppinhmgaaGreatDoor.FrD Go.Proofs.YtecnnlppinhmgaaGreatDoor.FrE Go.Proofs.YtecnnlppinhmgaaGreatDoor.FrF Go.Proofs.YtecnnlppinhmgaaGreatDoor.FrG

theorem rdF_le : ∀ (f i n : Nat) (l : List UInt8) (v k : Nat), n < 128 ^ i → Fp.rdF f i n l = some (v, k) → i < k ∧ k ≤ i + l.length ∧ v < 128 ^ (i + f)
  | 0, _, _, _, _, _, _, h => by simp [Fp.rdF] at h
  | f + 1, _, _, [], _, _, _, h => by simp [Fp.rdF] at h
  | f + 1, i, n, c :: t, v, k, hn, h => by
    have h1 : c.toNat % 128 * 128 ^ i ≤ 127 * 128 ^ i := Nat.mul_le_mul_right _ (by omega)
    have h2 : n + c.toNat % 128 * 128 ^ i < 128 ^ (i + 1) := by rw [Nat.pow_succ]; omega
    unfold Fp.rdF at h
    split at h
    · split at h
      · cases h
        refine ⟨by omega, by simp, Nat.lt_of_lt_of_le h2 (Nat.pow_le_pow_right (by decide) (by omega))⟩
      · cases h
    · obtain ⟨k1, k2, k3⟩ := rdF_le f (i + 1) _ t v k h2 h
      exact ⟨by omega, by simp; omega, by rw [show i + (f + 1) = i + 1 + f by omega]; exact k3⟩
theorem rd_le {l : List UInt8} {v k : Nat} (h : Fp.rd l = some (v, k)) : 0 < k ∧ k ≤ l.length ∧ v < 9223372036854775808 := by
  obtain ⟨h1, h2, h3⟩ := rdF_le 9 0 0 l v k (by decide) h
  exact ⟨h1, by omega, by simpa using h3⟩

/-- the answer's box, as it was laid -/
structure Sp (w W : World) : Prop where
  bel : Below w.heap.size w W
  box : W.heap[w.heap.size]? = some (.cells sc0 34 (0, 0))
theorem Sp.below {w W W' : World} (h : Sp w W) (hb : Below W.heap.size W W') : Sp w W' :=
  ⟨h.bel.trans (hb.mono h.bel.size), (hb.block _ (Array.getElem?_eq_some_iff.1 h.box).1).trans h.box⟩
theorem Sp.keep {w W W' : World} {B : Nat} (h : Sp w W) (hk : Dw.Keep [B] W W') (hB : w.heap.size < B) : Sp w W' :=
  ⟨Dw.Keep.below h.bel hk (fun i hi => by simp at hi; omega), (hk.block _ (Array.getElem?_eq_some_iff.1 h.box).1 (by simp; omega)).trans h.box⟩
theorem Sp.cells {w W : World} (h : Sp w W) : (W.cell? ⟨w.heap.size, 0, none⟩ = some (.int .i64 0) ∧ W.cell? ⟨w.heap.size, 1, none⟩ = some (.int .i64 0) ∧ W.cell? ⟨w.heap.size, 2, none⟩ = some (.int .i64 0) ∧ W.cell? ⟨w.heap.size, 3, none⟩ = some (.int .i64 0) ∧ W.cell? ⟨w.heap.size, 4, none⟩ = some (.int .i64 0)) ∧ (W.frozen? ⟨w.heap.size, 0, none⟩ = false ∧ W.frozen? ⟨w.heap.size, 1, none⟩ = false ∧ W.frozen? ⟨w.heap.size, 2, none⟩ = false ∧ W.frozen? ⟨w.heap.size, 3, none⟩ = false ∧ W.frozen? ⟨w.heap.size, 4, none⟩ = false) := by
  have hb := h.box
  refine ⟨⟨?_, ?_, ?_, ?_, ?_⟩, Lib.frozen_of_heap hb 0, Lib.frozen_of_heap hb 1, Lib.frozen_of_heap hb 2, Lib.frozen_of_heap hb 3, Lib.frozen_of_heap hb 4⟩
  all_goals (rw [Lib.cell_of_heap hb]; rfl)
abbrev st5 (w : World) (B : Nat) (a b c d e : Value) : World := ((((w.setCell ⟨B, 0, none⟩ a).setCell ⟨B, 1, none⟩ b).setCell ⟨B, 2, none⟩ c).setCell ⟨B, 3, none⟩ d).setCell ⟨B, 4, none⟩ e
theorem put5 {w : World} {B : Nat} {u0 u1 u2 u3 u4 : Value} {t : TypeId} (h : w.heap[B]? = some (.cells #[u0, u1, u2, u3, u4] t (0, 0))) (a b c d e : Value) : (st5 w B a b c d e).heap[B]? = some (.cells #[a, b, c, d, e] t (0, 0)) := by
  simp only [st5, World.setCell, Array.getElem?_modify, if_true, h]; rfl
theorem below_st5 {b B : Nat} {w w' : World} (h : Below b w w') (hB : b ≤ B) (x y z u v : Value) : Below b w (st5 w' B x y z u v) :=
  ((((h.setCell (p := ⟨B, 0, none⟩) hB _).setCell (p := ⟨B, 1, none⟩) hB _).setCell (p := ⟨B, 2, none⟩) hB _).setCell (p := ⟨B, 3, none⟩) hB _).setCell (p := ⟨B, 4, none⟩) hB _

theorem ev_keep {w1 w w' : World} {B : Nat} {aB aD : Addr} (h1 : Ev w1 aB aD) (h : Ev w aB aD) (hk : Dw.Keep [B] w w') (hB : w1.heap.size ≤ B) : Ev w' aB aD := by
  have k1 := World.block_lt_of_cell? _ _ h1.bytes
  have k2 := World.block_lt_of_cell? _ _ h1.digest
  refine ⟨(hk.cell (World.block_lt_of_cell? _ _ h.bytes) fun hm => ?_).trans h.bytes, (hk.cell (World.block_lt_of_cell? _ _ h.digest) fun hm => ?_).trans h.digest⟩
  · have := List.mem_singleton.1 hm; omega
  · have := List.mem_singleton.1 hm; omega

/-- what split answers -/
def SPost (aB aD : Addr) (w' : World) : Except Nat (Fp.Stamp × Nat × List UInt8) → Ending → Prop
  | .error k, e => e = .returned (.tuple #[.agg sc0, .int .i64 0, .slice none 0 0, Err.ev (if k = 4 then aB else aD)])
  | .ok (s, n, r), e => ∃ a' c', e = .returned (.tuple #[.agg (sc s), .int .i64 (n : Int), .slice a' r.length c', .nilIface]) ∧ Bs w' a' r c'

set_option maxHeartbeats 4000000 in
set_option maxRecDepth 100000 in
theorem split_short (l : List UInt8) {a : Option Addr} (c : Nat) (w : World) {aB aD : Addr} (hE : Ev w aB aD) (hb : Bs w a l c) (hl : l.length ≤ 140737488351232) (hr : ∀ n m, Fp.rd l = some (n, m) → 256 < n ∨ l.length < m + n) :
    Calls Tryz.prog 51 #[.slice a l.length c] w fun e w' => e = .returned (.tuple #[.agg sc0, .int .i64 0, .slice none 0 0, Err.ev aB]) ∧ Below w.heap.size w w' := by
  obtain ⟨w1, hw1, hS1⟩ : ∃ w1, w1 = w.alloc (.cells sc0 34) ∧ Sp w w1 := ⟨_, rfl, (Below.refl _ _).alloc (Nat.le_refl _) _, heap_alloc_new _ _⟩
  have KR := Lib.hid (newReader l c w1 (hb.below hS1.bel) hl)
  have HE := Lib.hid (hE.below hS1.bel)
  have HS1 := Lib.hid hS1
  clear hS1 hE
  go_enter Tryz.func51, Tryz.ntmps51
  go_upto_region 1 with fail
  rw [← hw1]
  clear hw1
  go_wp2_with (first
    | (go_at_call 71; refine KR.out.mono ?_; rintro e w2 ⟨Bq, rfl, hBq, hR2, hb2⟩; have HS2 := Lib.hid (HS1.out.below hb2); have KB := Lib.hid (bytes_no Bq l 0 256 w2 (HE.out.below hb2) hR2 hl (by omega) (fun n m h => by rw [List.drop_zero] at h; rcases hr n m h with h1 | h1; exact .inl h1; exact .inr (by omega)) (fun n m h => by rw [List.drop_zero] at h; have := rd_le h; exact ⟨by omega, by omega⟩)); clear hR2 hb2 hBq)
    | (go_at_call 72; refine KB.out.mono ?_; rintro e w3 ⟨rfl, k3, rfl⟩; have hS3 := HS2.out.below (below_drewN (Below.refl _ _) k3); generalize World.drewN _ _ = w3 at *; obtain ⟨⟨c0, c1, c2, c3, c4⟩, f0, f1, f2, f3, f4⟩ := hS3.cells))
  refine bodyPost_ret (res_split (put5 hS3.box _ _ _ _ _) rfl rfl rfl rfl rfl rfl) rfl ⟨rfl, below_st5 hS3.bel (Nat.le_refl _) _ _ _ _ _⟩

set_option maxHeartbeats 4000000 in
set_option maxRecDepth 100000 in
theorem split_shut (l : List UInt8) {a : Option Addr} (c : Nat) (w : World) {aB aD : Addr} (hE : Ev w aB aD) (hb : Bs w a l c) (hl : l.length ≤ 140737488351232) (n m k : Nat) (hr : Fp.rd l = some (n, m)) (hn : n ≤ 256) (hm : m + n ≤ l.length) (ho : Fp.openB ((l.drop m).take n) = .error k) :
    Calls Tryz.prog 51 #[.slice a l.length c] w fun e w' => e = .returned (.tuple #[.agg sc0, .int .i64 0, .slice none 0 0, Err.ev (if k = 4 then aB else aD)]) ∧ Below w.heap.size w w' := by
  obtain ⟨w1, hw1, hS1⟩ : ∃ w1, w1 = w.alloc (.cells sc0 34) ∧ Sp w w1 := ⟨_, rfl, (Below.refl _ _).alloc (Nat.le_refl _) _, heap_alloc_new _ _⟩
  have KR := Lib.hid (newReader l c w1 (hb.below hS1.bel) hl)
  have HE := Lib.hid (hE.below hS1.bel)
  have HS1 := Lib.hid hS1
  have hz1 : w.heap.size < w1.heap.size := (Array.getElem?_eq_some_iff.1 hS1.box).1
  have hln : ((l.drop m).take n).length = n := by rw [List.length_take, List.length_drop]; omega
  obtain ⟨T, hT⟩ : ∃ T, T = (l.drop m).take n := ⟨_, rfl⟩
  rw [← hT] at hln ho
  have HT := Lib.hid hT
  have HO := Lib.hid ho
  have HLN := Lib.hid hln
  have HR := Lib.hid hr
  clear hS1 hE hT ho hln hr
  obtain ⟨er, her⟩ : ∃ er, er = Err.ev (if k = 4 then aB else aD) := ⟨_, rfl⟩
  have HER := Lib.hid her
  rw [← her]
  have hnn : ∃ x, er = Err.ev x := ⟨_, her⟩
  clear her
  obtain ⟨ax, rfl⟩ := hnn
  go_enter Tryz.func51, Tryz.ntmps51
  go_upto_region 1 with fail
  rw [← hw1]
  clear hw1
  go_wp2_with (first
    | (go_at_call 71; refine KR.out.mono ?_; rintro e w2 ⟨Bq, rfl, hBq, hR2, hb2⟩; have HS2 := Lib.hid (HS1.out.below hb2); have KB := Lib.hid (bytes_ok Bq l 0 256 n m w2 hR2 hl (by rw [List.drop_zero]; exact HR.out) hn (by omega)); rw [Nat.zero_add, ← HT.out] at KB; have HE2 := Lib.hid (HE.out.below hb2); have hBq2 : w.heap.size < Bq := (by omega); clear hR2 hb2)
    | (go_at_call 72; refine KB.out.mono ?_; rintro e w3 ⟨a3, c3, rfl, hB3, hR3, hk3⟩; have hS3 := HS2.out.keep hk3 hBq2; have HS3 := Lib.hid hS3; have HE3 := Lib.hid (ev_keep HE.out HE2.out hk3 hBq); have KO := Lib.hid (openW T c3 w3 HE3.out hB3 (by have := HLN.out; omega)); rw [HO.out, HLN.out] at KO; clear hB3 hR3 hk3)
    | (go_at_call 73; refine KO.out.mono ?_; rintro e w4 ⟨he, hb4⟩; obtain rfl : e = .returned (.tuple #[.slice none 0 0, Err.ev ax]) := (he.trans (by rw [HER.out])); have hS4 := HS3.out.below hb4; obtain ⟨⟨c0, c1, c2, c3', c4⟩, f0, f1, f2, f3, f4⟩ := hS4.cells))
  refine bodyPost_ret (res_split (put5 hS4.box _ _ _ _ _) rfl rfl rfl rfl rfl rfl) rfl ⟨rfl, below_st5 hS4.bel (Nat.le_refl _) _ _ _ _ _⟩
end Go.Proofs.YtecnnlppinhmgaaGreatDoor.FrH
