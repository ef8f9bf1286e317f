/-
  Plain: what is read of a frame is in its shortest form; a frame's length. A drawn region under a condition S, walked by hand: quiet operations first, in whatever order one likes; then the one that is left. The walk of the document's Read, where there is a number. The walks of the document's Reader: Num and Bytes, where there is what they ask for. The walk of the document's Open, where the sum is right.
-/
import Derived.Test.YtecnnlppinhmgaaGreatDoorSa01
import Derived.Test.YtecnnlppinhmgaaGreatDoorSa07
import Derived.Test.YtecnnlppinhmgaaGreatDoorSa08
import Derived.Test.YtecnnlppinhmgaaGreatDoorSa15
import Derived.Deep.RegionHeld3
namespace Go.Proofs.YtecnnlppinhmgaaGreatDoor.FrN
open Go.Proofs.YtecnnlppinhmgaaGreatDoor

theorem u8_of {c : UInt8} {n : Nat} (h : n % 256 = c.toNat) : UInt8.ofNat n = c := by
  apply UInt8.toNat_inj.1
  rw [UInt8.toNat_ofNat']
  exact h
/-- bytes that are read as a number are that number's bytes -/
theorem rdF_enc : ∀ (g i acc : Nat) (l : List UInt8) (n m : Nat), Fp.rdF g i acc l = some (n, m) →
    ∃ q k, m = i + k + 1 ∧ k < g ∧ n = acc + q * 128 ^ i ∧ (q ≠ 0 ∨ i = 0) ∧ k < l.length ∧ (∀ f, k ≤ f → Fp.encF f q = l.take (k + 1)) ∧ (∀ j c, j < k → l[j]? = some c → 128 ≤ c.toNat) ∧ (∀ c, l[k]? = some c → c.toNat < 128)
  | 0, i, acc, l, n, m, h => by cases h
  | g + 1, i, acc, [], n, m, h => by cases h
  | g + 1, i, acc, c :: t, n, m, h => by
    rw [Fp.rdF] at h
    split at h
    · rename_i hc
      split at h
      · rename_i hz
        simp only [Option.some.injEq, Prod.mk.injEq] at h
        obtain ⟨rfl, rfl⟩ := h
        have hm : c.toNat % 128 = c.toNat := Nat.mod_eq_of_lt hc
        refine ⟨c.toNat, 0, rfl, by omega, by rw [hm], hz, by simp, fun f _ => ?_, fun j c' hj => by omega, fun c' hc' => by simp at hc'; subst hc'; exact hc⟩
        have e : UInt8.ofNat c.toNat = c := u8_of (Nat.mod_eq_of_lt (UInt8.toNat_lt c))
        cases f with
        | zero => simp [Fp.encF]
        | succ f => simp [Fp.encF, hc]
      · cases h
    · rename_i hc
      obtain ⟨q, k, rfl, hk, rfl, hz, hl, he, hb, hlast⟩ := rdF_enc g (i + 1) _ t n m h
      have hq : q ≠ 0 := hz.resolve_right (by omega)
      have hcl := UInt8.toNat_lt c
      refine ⟨c.toNat % 128 + 128 * q, k + 1, by omega, by omega, ?_, .inl (by omega), by simp; omega, fun f hf => ?_, fun j c' hj hc' => ?_, fun c' hc' => ?_⟩
      · rw [Nat.pow_succ, Nat.add_mul, Nat.add_assoc]
        congr 2
        rw [Nat.mul_comm 128 q, Nat.mul_assoc, Nat.mul_comm 128]
      · cases f with
        | zero => omega
        | succ f =>
          rw [Fp.encF, if_neg (by omega), List.take_succ_cons]
          congr 1
          · exact u8_of (by omega)
          · rw [show (c.toNat % 128 + 128 * q) / 128 = q by omega]
            exact he f (by omega)
      · cases j with
        | zero => simp at hc'; subst hc'; omega
        | succ j => exact hb j c' (by omega) (by simpa using hc')
      · exact hlast c' (by simpa using hc')
theorem rd_form {l : List UInt8} {n m : Nat} (h : Fp.rd l = some (n, m)) : ∃ k, m = k + 1 ∧ k < 9 ∧ k < l.length ∧ Fp.enc n = l.take (k + 1) ∧ (∀ j c, j < k → l[j]? = some c → 128 ≤ c.toNat) ∧ (∀ c, l[k]? = some c → c.toNat < 128) := by
  obtain ⟨q, k, rfl, hk, rfl, _, hl, he, hb, hlast⟩ := rdF_enc 9 0 0 l n m h
  refine ⟨k, by omega, hk, hl, ?_, hb, hlast⟩
  unfold Fp.enc
  rw [Nat.pow_zero, Nat.mul_one, Nat.zero_add]
  exact he 8 (by omega)

/-- the number that stands in the bytes from j to the last one, i -/
def up (l : List UInt8) : Nat → Nat → Nat
  | 0, _ => 0
  | g + 1, j => (match l[j]? with | some c => c.toNat % 128 | none => 0) + 128 * up l g (j + 1)
theorem rdF_up : ∀ (g i acc : Nat) (l : List UInt8) (n m : Nat), Fp.rdF g i acc l = some (n, m) → n = acc + up l (m - i) 0 * 128 ^ i ∧ i < m
  | 0, i, acc, l, n, m, h => by cases h
  | g + 1, i, acc, [], n, m, h => by cases h
  | g + 1, i, acc, c :: t, n, m, h => by
    rw [Fp.rdF] at h
    split at h
    · split at h
      · simp only [Option.some.injEq, Prod.mk.injEq] at h
        obtain ⟨rfl, rfl⟩ := h
        rw [show i + 1 - i = 1 by omega]
        exact ⟨by simp [up], by omega⟩
      · cases h
    · obtain ⟨h1, h2⟩ := rdF_up g (i + 1) _ t n m h
      refine ⟨?_, by omega⟩
      have hs : ∀ (k j : Nat), up (c :: t) k (j + 1) = up t k j := by
        intro k
        induction k with
        | zero => intro j; rfl
        | succ k ih => intro j; simp only [up, ih, List.getElem?_cons_succ]
      rw [show m - i = (m - (i + 1)) + 1 by omega, up, hs]
      simp only [List.getElem?_cons_zero]
      rw [h1, Nat.pow_succ, Nat.add_mul, Nat.add_assoc]
      congr 2
      rw [Nat.mul_comm (128 ^ i) 128, ← Nat.mul_assoc, Nat.mul_comm 128]
theorem rd_up {l : List UInt8} {n m : Nat} (h : Fp.rd l = some (n, m)) : n = up l m 0 := by
  obtain ⟨h1, _⟩ := rdF_up 9 0 0 l n m h
  simpa using h1
theorem up_le (l : List UInt8) : ∀ (g j : Nat), up l g j < 128 ^ g
  | 0, j => by simp [up]
  | g + 1, j => by
    have := up_le l g (j + 1)
    rw [up, Nat.pow_succ]
    split
    · rename_i c _
      have h := Nat.mod_lt c.toNat (show 128 > 0 by decide)
      generalize c.toNat % 128 = q at h ⊢
      omega
    · omega

theorem frame_len (s : Fp.Stamp) (l : List UInt8) : (Fp.put s l).length ≤ 74 + l.length + (l.length + 31) / 32 * 32 := by
  have h1 := Fp.head_len s l.length
  have h2 := (Fp.enc_len (Fp.sealB (Fp.headOf s l.length)).length).2
  have h3 := Fp.seal_len (Fp.headOf s l.length)
  have h4 := Fp.blks_len l.length l (Nat.le_refl _)
  unfold Fp.put
  simp only [List.length_append]
  omega
end Go.Proofs.YtecnnlppinhmgaaGreatDoor.FrN
namespace Go.Proofs.YtecnnlppinhmgaaGreatDoor.HeldH
open Go

section
variable {P : Program} {ops : Array Oper} {Q : Exit → Act → World → Prop} {md : Region.Mode} {S : World → Prop}

theorem take {i : Nat} {oi : Oper} {v : Value} {fuel : Nat} {listed : Array Bool} {a : Act} {w : World} (hi : ops[i]? = some oi)
    (hs : Region.noSelect ops = true) (hf : Region.free md ops listed i = true) (hr : (Region.ready md ops listed).contains i = true)
    (hQ : ∀ c a w, Q (.panic c) (a.put oi.dst v) w → Q (.panic c) a w) (hS : S w) (hw : Region.wanted oi (yielded ops a.tmps) = true) (hy : ∀ w, S w → (execOp a.eval oi).run P w = .ok (.value v) w)
    (h : wpAnyH P md ops Q S fuel (listed.setIfInBounds i true) (a.put oi.dst v) w) : wpAnyH P md ops Q S (fuel + 1) listed a w :=
  wpAnyH_take hi hs hf hr hQ (.inl ⟨hw, hy⟩) hS h

theorem one {i : Nat} {o : Oper} {fuel : Nat} {listed : Array Bool} {a : Act} {w : World} (hr : Region.ready md ops listed = [i]) (ho : ops[i]? = some o)
    (h : ∀ K' : Act → World → Prop, Shut (∀ a w, S w → wpAnyH P md ops Q S fuel (listed.setIfInBounds i true) a w → K' a w) → if Region.wanted o (yielded ops a.tmps) = true then Oper.wp P o a w K' Q else K' (a.put o.dst undef) w) :
    wpAnyH P md ops Q S (fuel + 1) listed a w := by
  refine wpAnyH_all hr (by simp) fun j hj => ?_
  obtain rfl : j = i := List.mem_singleton.1 hj
  exact wpOp_step ho (fun K' hK => h K' (fun a w hS hW => hK a w ⟨hS, hW⟩))

theorem region {id : Nat} {a : Act} {w : World} (S : World → Prop) (hm : P.follows .mixedOrders = true)
    (h : wpAnyH P .any ops Q S ops.size (Array.replicate ops.size false) a w.drew) : (Code.region id ops true).wp P Q a w :=
  wp_region_held hm h
end
end Go.Proofs.YtecnnlppinhmgaaGreatDoor.HeldH
namespace Go.Proofs.YtecnnlppinhmgaaGreatDoor.FrO
open Go.RowKit Go.Proofs.YtecnnlppinhmgaaGreatDoor Go.Proofs.YtecnnlppinhmgaaGreatDoor.HtW Go.Proofs.YtecnnlppinhmgaaGreatDoor.HtX Go.Proofs.YtecnnlppinhmgaaGreatDoor.App Go.Proofs.YtecnnlppinhmgaaGreatDoor.FrA Go.Proofs.YtecnnlppinhmgaaGreatDoor.FrC Go.Proofs.YtecnnlppinhmgaaGreatDoor.FrN

theorem up_step (L : List UInt8) {j : Nat} {x : UInt8} (g : Nat) (h : L[j]? = some x) : up L (g + 1) j = x.toNat % 128 + 128 * up L g (j + 1) := by rw [up, h]
theorem pow9 {g : Nat} (h : g ≤ 9) : 128 ^ g ≤ 9223372036854775808 := Nat.le_trans (Nat.pow_le_pow_right (by decide) h) (by decide)

set_option maxHeartbeats 4000000 in
set_option maxRecDepth 100000 in
theorem readOk (l : List UInt8) (k n m : Nat) {a : Option Addr} (c : Nat) (w : World) (hb : Bs w a l c) (hl : l.length ≤ 140737488351232) (hr : Fp.rd (l.drop k) = some (n, m)) :
    Calls Tryz.prog 85 #[.slice a l.length c, .int .i64 (k : Int)] w fun e w' => e = .returned (.tuple #[.int .i64 (n : Int), .int .i64 ((k : Int) + (m : Int)), .bool true]) ∧ Below w.heap.size w w' := by
  have hu := rd_up hr
  obtain ⟨q, rfl, hq9, hql, henc, hge, hlt⟩ := rd_form hr
  have hkl : k + q < l.length := by rw [List.length_drop] at hql; omega
  have HG := Lib.hid hge
  have HL := Lib.hid hlt
  have HE := Lib.hid henc
  have HU := Lib.hid hu
  have HB := Lib.hid hb
  clear hge hlt henc hu hb hr hql
  obtain ⟨b, o, rfl, hbw, hcell⟩ : ∃ b o, a = some ⟨b, o, none⟩ ∧ b < w.heap.size ∧ ∀ j x, l[j]? = some x → w.cell? ⟨b, o + j, none⟩ = some (.int .u8 (x.toNat : Int)) := by
    rcases HB.out.2.2 with h0 | h
    · rw [h0] at hkl; simp at hkl
    · exact h
  have HC := Lib.hid hcell
  clear hcell
  have hk9 : IntKind.i64.wrap ((k : Int) + 9) = (k : Int) + 9 := IntWalk.i64_in _ ⟨by omega, by omega⟩
  go_enter Tryz.func85, Tryz.ntmps85
  go_wp2_with fail
  go_loopg [7] (q + 1) (fun g v7 wr => ∃ i : Nat, i + g = q + 1 ∧ i ≤ q ∧ v7 = .int .i64 ((k : Int) + (i : Int)) ∧ w = wr)
  case atStart => exact ⟨0, by omega, by omega, by simp, rfl⟩
  case round =>
    obtain ⟨i, hig, hiq, rfl, rfl⟩ := hrel
    have HIG := Lib.hid hig
    have e1 : decide ((k : Int) + (i : Int) < (l.length : Int)) = true := decide_eq_true (by omega)
    have e2 : decide ((k : Int) + (i : Int) < (k : Int) + 9) = true := decide_eq_true (by omega)
    obtain ⟨x, hx⟩ : ∃ x, l[k + i]? = some x := ⟨l[k + i], List.getElem?_eq_getElem (by omega)⟩
    have ck := HC.out _ _ hx
    have hxd : (l.drop k)[i]? = some x := by rw [List.getElem?_drop]; exact hx
    by_cases hi : i < q
    · have e3 : decide ((x.toNat : Int) ≥ 128) = true := decide_eq_true (by have := HG.out i x hi hxd; omega)
      clear hig hx hxd
      go_wp2_with fail
      go_roundg (q - i)
      case measure => have := HIG.out; omega
      case rel => exact ⟨i + 1, by omega, by omega, by simp [Int.add_assoc], rfl⟩
    obtain rfl : i = q := by omega
    have hx8 := HL.out x hxd
    have e3 : decide ((x.toNat : Int) ≥ 128) = false := decide_eq_false (by omega)
    clear hig hx hxd hi
    go_wp2_with fail
    go_loopg [8, 9] (i + 1) (fun g v8 v9 wr => g ≤ i + 1 ∧ v9 = .int .i64 ((k : Int) + (g : Int) - 1) ∧ v8 = .int .i64 ((up (l.drop k) (i + 1 - g) g : Nat) : Int) ∧ w = wr)
    case atStart => exact ⟨Nat.le_refl _, by congr 1; omega, by rw [Nat.sub_self]; rfl, rfl⟩
    case round =>
      obtain ⟨hg, rfl, rfl, rfl⟩ := hrel
      cases gk with
      | succ g =>
        obtain ⟨y, hy⟩ : ∃ y, l[k + g]? = some y := ⟨l[k + g], List.getElem?_eq_getElem (by omega)⟩
        have ck2 := HC.out _ _ hy
        have hyd : (l.drop k)[g]? = some y := by rw [List.getElem?_drop]; exact hy
        have hus := up_step (l.drop k) (i - g) hyd
        have hul := up_le (l.drop k) (i - g) (g + 1)
        have hu9 := up_le (l.drop k) (i - g + 1) g
        have hp8 := pow9 (g := i - g) (by omega)
        have hp9 := pow9 (g := i - g + 1) (by omega)
        rw [show i + 1 - (g + 1) = i - g by omega]
        have HU' := Lib.hid (show up (l.drop k) (i + 1 - g) g = y.toNat % 128 + 128 * up (l.drop k) (i - g) (g + 1) by rw [show i + 1 - g = i - g + 1 by omega]; exact hus)
        rw [hus] at hu9
        generalize up (l.drop k) (i - g) (g + 1) = U at *
        have e4 : decide ((k : Int) + ((g + 1 : Nat) : Int) - 1 ≥ (k : Int)) = true := decide_eq_true (by omega)
        have e5 : (k : Int) + ((g + 1 : Nat) : Int) - 1 = (k : Int) + (g : Int) := by omega
        rw [e5] at e4 ⊢
        have hyl := UInt8.toNat_lt y
        have m1 : IntKind.i64.wrap ((U : Int) * 128) = (U : Int) * 128 := IntWalk.i64_in _ ⟨by omega, by omega⟩
        have m2 : IntKind.i64.wrap ((U : Int) * 128 + (y.toNat : Int) % 128) = (U : Int) * 128 + (y.toNat : Int) % 128 := IntWalk.i64_in _ ⟨by omega, by omega⟩
        clear hy hyd hus hul hu9 hp8 hp9
        go_wp2_with fail
        go_roundg g
        case measure => omega
        case rel => exact ⟨by omega, rfl, by rw [HU'.out]; congr 1; omega, rfl⟩
      | zero =>
        rw [Nat.sub_zero, ← HU.out, show (k : Int) + ((0 : Nat) : Int) - 1 = (k : Int) - 1 by omega]
        have e6 : decide ((k : Int) - 1 ≥ (k : Int)) = false := decide_eq_false (by omega)
        have hn63 : n < 9223372036854775808 := by rw [HU.out]; exact Nat.lt_of_lt_of_le (up_le _ _ _) (pow9 (by omega))
        have hwr : IntKind.i64.wrap ((k : Int) + (i : Int) + 1) = (k : Int) + (i : Int) + 1 := IntWalk.i64_in _ ⟨by omega, by omega⟩
        obtain ⟨a', kcut, hb'⟩ := Mid.mid HB.out k (i + 1) (by omega) (k : Int) ((k : Int) + (i : Int) + 1) rfl (by omega)
        have hlen' : ((l.drop k).take (i + 1)).length = i + 1 := by rw [List.length_take, List.length_drop]; omega
        have KC := Lib.hid (show ∀ W, Below w.heap.size w W → (convert 24 9 (.slice a' (i + 1) (c - k))).run Tryz.prog W = .ok (.string ⟨(Fp.enc n).toArray⟩) W from fun W hW => by
          have := to_string (hb'.below hW)
          rw [hlen', ← HE.out] at this
          exact this)
        have KN := Lib.hid (fun W => num n W hn63)
        clear hlen' hb' hn63
        go_upto_region 10 with fail
        have hbd := Lib.hid (show Below w.heap.size w w.drew from (Below.refl _ _).drew)
        refine HeldH.region (fun W => Below w.heap.size w W) (by kernel_rfl) ?_
        refine HeldH.take (i := 0) (v := ?v0) rfl (by kernel_rfl) (by kernel_rfl) (by kernel_rfl) (fun _ _ _ h => h) hbd.out (by rfl) ?hy0 ?hr0
        case hy0 => intro W hSw; go_simp; try with_reducible rfl
        try simp only [Act.put, List.setIfInBounds_toArray]
        refine HeldH.take (i := 3) (v := ?v3) rfl (by kernel_rfl) (by kernel_rfl) (by kernel_rfl) (fun _ _ _ h => h) hbd.out (by rfl) ?hy3 ?hr3
        case hy3 => intro W hSw; go_simp; try with_reducible rfl
        try simp only [Act.put]
        refine HeldH.take (i := 4) (v := ?v4) rfl (by kernel_rfl) (by kernel_rfl) (by kernel_rfl) (fun _ _ _ h => h) hbd.out (by rfl) ?hy4 ?hr4
        case hy4 => intro W hSw; go_simp; try with_reducible rfl
        try simp only [Act.put]
        refine HeldH.take (i := 5) (v := ?v5) rfl (by kernel_rfl) (by kernel_rfl) (by kernel_rfl) (fun _ _ _ h => h) hbd.out (by rfl) ?hy5 ?hr5
        case hy5 => intro W hSw; go_simp; try with_reducible rfl
        try simp only [Act.put]
        refine HeldH.take (i := 6) (v := ?v6) rfl (by kernel_rfl) (by kernel_rfl) (by kernel_rfl) (fun _ _ _ h => h) hbd.out (by rfl) ?hy6 ?hr6
        case hy6 => intro W hSw; go_simp; try with_reducible rfl
        try simp only [Act.put]
        refine HeldH.take (i := 7) (v := ?v7) rfl (by kernel_rfl) (by kernel_rfl) (by kernel_rfl) (fun _ _ _ h => h) hbd.out (by rfl) ?hy7 ?hr7
        case hy7 => intro W hSw; go_simp; try with_reducible rfl
        try simp only [Act.put]
        refine HeldH.take (i := 8) (v := ?v8) rfl (by kernel_rfl) (by kernel_rfl) (by kernel_rfl) (fun _ _ _ h => h) hbd.out (by rfl) ?hy8 ?hr8
        case hy8 => intro W hSw; have kc := KC.out W hSw; go_simp; try with_reducible rfl
        try simp only [Act.put]
        refine HeldH.one (i := 1) (by kernel_rfl) rfl (fun K hK => ?_)
        go_simp
        go_at_call 25
        refine (KN.out _).mono ?_
        rintro e w9 ⟨v, rfl, hO, hb9⟩
        try go_wp2_with fail
        have hb9' : Below w.heap.size w w9 := hbd.out.trans (hb9.mono hbd.out.size)
        refine hK.out _ _ hb9' ?_
        clear hK K
        try simp only [Act.put, List.setIfInBounds_toArray, List.set_cons_zero, List.set_cons_succ]
        obtain ⟨av, cv, rfl, hbv⟩ := hO.bs
        have kv := to_string hbv
        refine HeldH.one (i := 2) (by kernel_rfl) rfl (fun K hK => ?_)
        go_simp
        refine hK.out _ _ hb9' ?_
        clear hK K
        try simp only [Act.put, List.setIfInBounds_toArray, List.set_cons_zero, List.set_cons_succ]
        refine HeldH.one (i := 9) (by kernel_rfl) rfl (fun K hK => ?_)
        go_simp
        refine hK.out _ _ hb9' ?_
        clear hK K
        try simp only [Act.put, List.setIfInBounds_toArray, List.set_cons_zero, List.set_cons_succ]
        refine wpAnyH_done (by kernel_rfl) ?_ _
        have HW := Lib.hid hb9'
        go_wp2_with fail
        go_ret3
        exact ⟨by rw [show (k : Int) + ((i + 1 : Nat) : Int) = (k : Int) + (i : Int) + 1 by omega]; rfl, HW.out⟩
end Go.Proofs.YtecnnlppinhmgaaGreatDoor.FrO
namespace Go.Proofs.YtecnnlppinhmgaaGreatDoor.FrQ
open Go.RowKit Go.Proofs.YtecnnlppinhmgaaGreatDoor Go.Proofs.YtecnnlppinhmgaaGreatDoor.HtW Go.Proofs.YtecnnlppinhmgaaGreatDoor.HtX Go.Proofs.YtecnnlppinhmgaaGreatDoor.App Go.Proofs.YtecnnlppinhmgaaGreatDoor.FrA Go.Proofs.YtecnnlppinhmgaaGreatDoor.FrC Go.Proofs.YtecnnlppinhmgaaGreatDoor.FrN Go.Proofs.YtecnnlppinhmgaaGreatDoor.FrO

/-- a reader's box: its bytes, and where it stands -/
def Rr (B : Nat) (w : World) (l : List UInt8) (at' : Nat) : Prop := ∃ a c, w.heap[B]? = some (.cells #[.slice a l.length c, .int .i64 (at' : Int)] 113 (0, 0)) ∧ Bs w a l c ∧ (l ≠ [] → ∀ p, a = some p → p.block < B)
theorem Rr.below {B : Nat} {w w' : World} {l : List UInt8} {k : Nat} (h : Rr B w l k) (hb : Below w.heap.size w w') : Rr B w' l k := by
  obtain ⟨a, c, h1, h2, h3⟩ := h
  exact ⟨a, c, (hb.block _ (Array.getElem?_eq_some_iff.1 h1).1).trans h1, h2.below hb, h3⟩
theorem Rr.lt {B : Nat} {w : World} {l : List UInt8} {k : Nat} (h : Rr B w l k) : B < w.heap.size := by
  obtain ⟨a, c, h1, h2, h3⟩ := h
  exact (Array.getElem?_eq_some_iff.1 h1).1
theorem Rr.cells {B : Nat} {w : World} {l : List UInt8} {p : Nat} (h : Rr B w l p) : ∃ a c, w.cell? ⟨B, 0, none⟩ = some (.slice a l.length c) ∧ w.cell? ⟨B, 1, none⟩ = some (.int .i64 (p : Int)) ∧ w.frozen? ⟨B, 1, none⟩ = false ∧ Bs w a l c := by
  obtain ⟨a, c, h1, h2, h3⟩ := h
  exact ⟨a, c, by rw [Lib.cell_of_heap h1]; rfl, by rw [Lib.cell_of_heap h1]; rfl, Lib.frozen_of_heap h1 1, h2⟩
theorem Rr.put {B : Nat} {w : World} {l : List UInt8} {p : Nat} (h : Rr B w l p) (q : Nat) : Rr B (w.setCell ⟨B, 1, none⟩ (.int .i64 (q : Int))) l q := by
  obtain ⟨a, c, h1, h2, h3⟩ := h
  refine ⟨a, c, by simp only [World.setCell, Array.getElem?_modify, if_true, h1]; rfl, ⟨h2.1, h2.2.1, h2.2.2.imp id fun ⟨b, o, k1, k2, k3⟩ => ⟨b, o, k1, by simpa [World.setCell] using k2, fun j x hj => ?_⟩⟩, h3⟩
  have hne : l ≠ [] := fun h0 => by rw [h0] at hj; simp at hj
  have hn : b ≠ B := Nat.ne_of_lt (h3 hne _ k1)
  exact (World.cell?_of_block (w := w) (a := ⟨b, o + j, none⟩) (Below.heap_setCell _ _ _ _ (fun h => hn h))).trans (k3 j x hj)
theorem keep_put {l : List Nat} {w w' : World} (h : Dw.Keep l w w') {B : Nat} (hB : B ∈ l) (j : Nat) (v : Value) : Dw.Keep l w (w'.setCell ⟨B, j, none⟩ v) := h.setCell (.inl hB) _

/-- what stands while a reader reads -/
abbrev S2 (w : World) (B : Nat) (v : Value) (p : Int) (W : World) : Prop := (W.cell? ⟨B, 0, none⟩ = some v ∧ W.cell? ⟨B, 1, none⟩ = some (.int .i64 p)) ∧ Below w.heap.size w W
theorem S2.below {w : World} {B : Nat} {v : Value} {p : Int} {W W' : World} (h : S2 w B v p W) (hb : Below W.heap.size W W') : S2 w B v p W' := by
  obtain ⟨⟨h1, h2⟩, h3⟩ := h
  have g1 : B < W.heap.size := World.block_lt_of_cell? _ _ h1
  exact ⟨⟨(hb.cell (p := ⟨B, 0, none⟩) g1).trans h1, (hb.cell (p := ⟨B, 1, none⟩) g1).trans h2⟩, h3.trans (hb.mono h3.size)⟩

set_option maxHeartbeats 2000000 in
set_option maxRecDepth 100000 in
theorem num_ok (B : Nat) (l : List UInt8) (p most n m : Nat) (w : World) (h : Rr B w l p) (hl : l.length ≤ 140737488351232) (hr : Fp.rd (l.drop p) = some (n, m)) (hn : n ≤ most) (_hpm : p + m ≤ l.length) :
    Calls Tryz.prog 63 #[.pointer (some ⟨B, 0, none⟩), .int .i64 (most : Int)] w fun e w' => e = .returned (.tuple #[.int .i64 (n : Int), .int .i64 0]) ∧ Rr B w' l (p + m) ∧ Dw.Keep [B] w w' := by
  obtain ⟨a, c, c0, c1, f1, hb⟩ := h.cells
  have HR := Lib.hid h
  have KR := Lib.hid (show ∀ W, S2 w B (.slice a l.length c) p W → Calls Tryz.prog 85 #[.slice a l.length c, .int .i64 (p : Int)] W fun e w' => e = .returned (.tuple #[.int .i64 (n : Int), .int .i64 ((p : Int) + (m : Int)), .bool true]) ∧ S2 w B (.slice a l.length c) p w' from
    fun W hW => (readOk l p n m c W (hb.below hW.2) hl hr).mono fun e w' ⟨h1, h2⟩ => ⟨h1, hW.below h2⟩)
  have e1 : decide ((most : Int) < (n : Int)) = false := decide_eq_false (by omega)
  have e2 : decide ((n : Int) > (most : Int)) = false := decide_eq_false (by omega)
  have hS0 : S2 w B (.slice a l.length c) p w.drew := S2.below ⟨⟨c0, c1⟩, Below.refl _ _⟩ (Below.refl _ _).drew
  clear h hr hb
  go_enter Tryz.func63, Tryz.ntmps63
  go_upto_region 1 with fail
  go_region_held3 (fun W => (W.cell? ⟨B, 0, none⟩ = some (.slice a l.length c) ∧ W.cell? ⟨B, 1, none⟩ = some (.int .i64 (p : Int))) ∧ Below w.heap.size w W)
    (first | exact hS0 | assumption | go_keep)
    (first
      | (go_at_call 85; refine (KR.out _ (by first | assumption | exact hS0)).mono ?_; rintro e w1 ⟨rfl, hS1⟩))
  have HR1 := Lib.hid (HR.out.below hS1.2)
  obtain ⟨a1, c1', -, -, f1', -⟩ := HR1.out.cells
  have HB1 := Lib.hid hS1.2
  clear c0 c1 f1
  go_wp2_with fail
  go_ret2
  exact ⟨rfl, by have := HR1.out.put (p + m); rwa [Int.natCast_add] at this, (Dw.Keep.of_below HB1.out _).setCell (.inl (by simp)) _⟩
set_option maxHeartbeats 2000000 in
set_option maxRecDepth 100000 in
theorem bytes_ok (B : Nat) (l : List UInt8) (p most n m : Nat) (w : World) (h : Rr B w l p) (hl : l.length ≤ 140737488351232) (hr : Fp.rd (l.drop p) = some (n, m)) (hn : n ≤ most) (hm : p + m + n ≤ l.length) (hn0 : 0 < n) :
    Calls Tryz.prog 61 #[.pointer (some ⟨B, 0, none⟩), .int .i64 (most : Int)] w fun e w' => ∃ a' c', e = .returned (.tuple #[.slice a' n c', .int .i64 0]) ∧ Bs w' a' ((l.drop (p + m)).take n) c' ∧ Rr B w' l (p + m + n) ∧ Dw.Keep [B] w w' := by
  obtain ⟨a, c, c0, c1, f1, hb⟩ := h.cells
  have HR := Lib.hid h
  have KR := Lib.hid (show ∀ W, S2 w B (.slice a l.length c) p W → Calls Tryz.prog 85 #[.slice a l.length c, .int .i64 (p : Int)] W fun e w' => e = .returned (.tuple #[.int .i64 (n : Int), .int .i64 ((p : Int) + (m : Int)), .bool true]) ∧ S2 w B (.slice a l.length c) p w' from
    fun W hW => (readOk l p n m c W (hb.below hW.2) hl hr).mono fun e w' ⟨h1, h2⟩ => ⟨h1, hW.below h2⟩)
  have e1 : decide ((most : Int) < (n : Int)) = false := decide_eq_false (by omega)
  have e3 : decide ((l.length : Int) - ((p : Int) + (m : Int)) < (n : Int)) = false := decide_eq_false (by omega)
  have hS0 : S2 w B (.slice a l.length c) p w.drew := S2.below ⟨⟨c0, c1⟩, Below.refl _ _⟩ (Below.refl _ _).drew
  clear h hr hb
  go_enter Tryz.func61, Tryz.ntmps61
  go_upto_region 1 with fail
  go_region_held3 (fun W => (W.cell? ⟨B, 0, none⟩ = some (.slice a l.length c) ∧ W.cell? ⟨B, 1, none⟩ = some (.int .i64 (p : Int))) ∧ Below w.heap.size w W)
    (first | exact hS0 | assumption | go_keep)
    (first
      | (go_at_call 85; refine (KR.out _ (by first | assumption | exact hS0)).mono ?_; rintro e w1 ⟨rfl, hS1⟩))
  have HR1 := Lib.hid (HR.out.below hS1.2)
  obtain ⟨a1, c1', k0, -, f1', -⟩ := HR1.out.cells
  have HB1 := Lib.hid hS1.2
  obtain ⟨⟨d0, d1⟩, -⟩ := hS1
  clear c0 c1 f1
  go_upto_region 5 with fail
  obtain ⟨w2, hw2, hR2, hk2⟩ : ∃ w2, w2 = w1.setCell ⟨B, 1, none⟩ (.int .i64 ((p : Int) + (m : Int) + (n : Int))) ∧ Rr B w2 l (p + m + n) ∧ Dw.Keep [B] w w2 :=
    ⟨_, rfl, by have := HR1.out.put (p + m + n); rwa [Int.natCast_add, Int.natCast_add] at this, (Dw.Keep.of_below HB1.out _).setCell (.inl (by simp)) _⟩
  rw [← hw2]
  clear hw2 d0 d1 f1' k0 HR HR1 e1 e3 KR HB1 hS0
  obtain ⟨a2, c2, d0, d1, -, hb2⟩ := hR2.cells
  have d1' : w2.cell? ⟨B, 1, none⟩ = some (.int .i64 ((p : Int) + (m : Int) + (n : Int))) := by rw [d1, Int.natCast_add, Int.natCast_add]
  obtain ⟨a', hsl, hbm⟩ := Mid.mid hb2 (p + m) n hm ((p : Int) + (m : Int)) ((p : Int) + (m : Int) + (n : Int)) (by omega) (by omega)
  have hln : ((l.drop (p + m)).take n).length = n := by rw [List.length_take, List.length_drop]; omega
  obtain ⟨T, hT⟩ : ∃ T, T = (l.drop (p + m)).take n := ⟨_, rfl⟩
  rw [← hT] at hbm hln
  have HT := Lib.hid hT
  have HBM := Lib.hid hbm
  have HLN := Lib.hid hln
  have HR2 := Lib.hid hR2
  have HK2 := Lib.hid hk2
  have hS2 : S2 w2 B (.slice a2 l.length c2) ((p : Int) + (m : Int) + (n : Int)) w2.drew := S2.below ⟨⟨d0, d1'⟩, Below.refl _ _⟩ (Below.refl _ _).drew
  have HS2 := Lib.hid hS2
  have HS20 := Lib.hid (show S2 w2 B (.slice a2 l.length c2) ((p : Int) + (m : Int) + (n : Int)) w2 from ⟨⟨d0, d1'⟩, Below.refl _ _⟩)
  clear hT hbm hln hb2 d1 d1' d0 hR2 hk2 hS2
  refine HeldH.region (fun W => (W.cell? ⟨B, 0, none⟩ = some (.slice a2 l.length c2) ∧ W.cell? ⟨B, 1, none⟩ = some (.int .i64 ((p : Int) + (m : Int) + (n : Int)))) ∧ Below w2.heap.size w2 W) (by kernel_rfl) ?_
  refine HeldH.take (i := 1) (v := ?v1) rfl (by kernel_rfl) (by kernel_rfl) (by kernel_rfl) (fun _ _ _ h => h) HS2.out (by rfl) ?hy1 ?hr1
  case hy1 => intro W hSw; go_simp; try with_reducible rfl
  try simp only [Act.put, List.setIfInBounds_toArray]
  refine HeldH.take (i := 2) (v := ?v2) rfl (by kernel_rfl) (by kernel_rfl) (by kernel_rfl) (fun _ _ _ h => h) HS2.out (by rfl) ?hy2 ?hr2
  case hy2 => intro W hSw; go_simp; try with_reducible rfl
  try simp only [Act.put]
  refine HeldH.take (i := 3) (v := ?v3) rfl (by kernel_rfl) (by kernel_rfl) (by kernel_rfl) (fun _ _ _ h => h) HS2.out (by rfl) ?hy3 ?hr3
  case hy3 => intro W hSw; go_simp; try with_reducible rfl
  try simp only [Act.put]
  refine HeldH.take (i := 4) (v := ?v4) rfl (by kernel_rfl) (by kernel_rfl) (by kernel_rfl) (fun _ _ _ h => h) HS2.out (by rfl) ?hy4 ?hr4
  case hy4 => intro W hSw; go_simp; try with_reducible rfl
  try simp only [Act.put]
  refine HeldH.take (i := 5) (v := ?v5) rfl (by kernel_rfl) (by kernel_rfl) (by kernel_rfl) (fun _ _ _ h => h) HS2.out (by rfl) ?hy5 ?hr5
  case hy5 => intro W hSw; go_simp; try with_reducible rfl
  try simp only [Act.put]
  refine HeldH.take (i := 6) (v := ?v6) rfl (by kernel_rfl) (by kernel_rfl) (by kernel_rfl) (fun _ _ _ h => h) HS2.out (by rfl) ?hy6 ?hr6
  case hy6 => intro W hSw; go_simp; try with_reducible rfl
  try simp only [Act.put]
  refine HeldH.take (i := 7) (v := ?v7) rfl (by kernel_rfl) (by kernel_rfl) (by kernel_rfl) (fun _ _ _ h => h) HS2.out (by rfl) ?hy7 ?hr7
  case hy7 => intro W hSw; go_simp; try with_reducible rfl
  try simp only [Act.put]
  refine HeldH.take (i := 8) (v := ?v8) rfl (by kernel_rfl) (by kernel_rfl) (by kernel_rfl) (fun _ _ _ h => h) HS2.out (by rfl) ?hy8 ?hr8
  case hy8 => intro W hSw; go_simp; try with_reducible rfl
  try simp only [Act.put]
  refine HeldH.take (i := 9) (v := ?v9) rfl (by kernel_rfl) (by kernel_rfl) (by kernel_rfl) (fun _ _ _ h => h) HS2.out (by rfl) ?hy9 ?hr9
  case hy9 => intro W hSw; go_simp; try with_reducible rfl
  try simp only [Act.put]
  refine HeldH.take (i := 10) (v := ?v10) rfl (by kernel_rfl) (by kernel_rfl) (by kernel_rfl) (fun _ _ _ h => h) HS2.out (by rfl) ?hy10 ?hr10
  case hy10 => intro W hSw; go_simp; try with_reducible rfl
  try simp only [Act.put]
  have hS3 := HS2.out.below ((Below.refl w2.drew.heap.size w2.drew).alloc (Nat.le_refl _) (.cells #[] 5))
  refine HeldH.one (i := 0) (by kernel_rfl) rfl (fun K hK => ?_)
  go_simp
  refine hK.out _ _ hS3 ?_
  clear hK K
  try simp only [Act.put, List.setIfInBounds_toArray, List.set_cons_zero, List.set_cons_succ]
  refine HeldH.one (i := 11) (by kernel_rfl) rfl (fun K hK => ?_)
  refine FrM.step_append_by (by rfl) (.tmp 46) (.tmp 56) (by rfl) w2.heap.size w2.heap.size 0 [] T 0 n rfl HLN.out.symm (own_nil _ _ (Nat.le_refl _)) a' (c2 - (p + m)) (HBM.out.below hS3.2) (fun h => by have := HLN.out; rw [h] at this; simp at this; omega) (by have := HLN.out; simp; omega) hS3.2.size (by rfl) (by rfl) ?_
  intro g' cap' w6 n6 hn6 ho6 hg6 hor
  have hk6 : Dw.Keep [w2.heap.size] w2 w6 := FrM.keep_grown (Dw.Keep.of_below hS3.2 _) hg6 (fun k hk => .inl (by cases hk; simp))
  have hb6 : Below w2.heap.size w2 w6 := Dw.Keep.below (Below.refl _ _) hk6 (fun i hi => by rw [List.mem_singleton.1 hi]; exact Nat.le_refl _)
  have hS6 := HS20.out.below hb6
  refine hK.out _ _ hS6 ?_
  clear hK K
  try simp only [Act.put, List.setIfInBounds_toArray]
  refine HeldH.one (i := 12) (by kernel_rfl) rfl (fun K hK => ?_)
  go_simp
  refine hK.out _ _ hS6 ?_
  clear hK K
  try simp only [Act.put, List.setIfInBounds_toArray, List.set_cons_zero, List.set_cons_succ]
  refine HeldH.one (i := 13) (by kernel_rfl) rfl (fun K hK => ?_)
  go_simp
  refine hK.out _ _ hS6 ?_
  clear hK K
  try simp only [Act.put, List.setIfInBounds_toArray, List.set_cons_zero, List.set_cons_succ]
  refine wpAnyH_done (by kernel_rfl) ?_ _
  have HO := Lib.hid ho6
  have HN6 := Lib.hid hn6
  have HB6 := Lib.hid hb6
  clear ho6 hn6 hb6 hk6 hg6 hor hS6 hS3
  go_wp2_with fail
  go_ret2
  obtain ⟨a7, c7, e7, hB7⟩ := HO.out.bs
  cases e7
  rw [← HT.out]
  exact ⟨_, _, by rw [HLN.out]; rfl, by simpa using hB7, HR2.out.below HB6.out, HK2.out.trans (Dw.Keep.of_below HB6.out _)⟩
end Go.Proofs.YtecnnlppinhmgaaGreatDoor.FrQ
namespace Go.Proofs.YtecnnlppinhmgaaGreatDoor.FrS
open Go.RowKit Go.Proofs.YtecnnlppinhmgaaGreatDoor Go.Proofs.YtecnnlppinhmgaaGreatDoor.HtW Go.Proofs.YtecnnlppinhmgaaGreatDoor.HtX Go.Proofs.YtecnnlppinhmgaaGreatDoor.App Go.Proofs.YtecnnlppinhmgaaGreatDoor.FrA Go.Proofs.YtecnnlppinhmgaaGreatDoor.FrC Go.Proofs.YtecnnlppinhmgaaGreatDoor.FrN Go.Proofs.YtecnnlppinhmgaaGreatDoor.FrO

/-- x[:n:n] -/
theorem pre3 {w : World} {a : Option Addr} {l : List UInt8} {c : Nat} (h : Bs w a l c) (n : Nat) (hn : n ≤ l.length) (y : Int) (hy : y = n) :
    ∃ a', (∀ W, (Instr.sliceAt 24 (.slice a l.length c) none (some (.int .i64 y)) (some (.int .i64 y))).run Tryz.prog W = .ok (.slice a' n n) W) ∧ (0 < n → Bs w a' (l.take n) n) := by
  subst hy
  have hc := h.1
  have ht : Tryz.prog.underlying 24 = some (.slice (Tryz.prog.elem 24)) := by kernel_rfl
  have hs : ∀ W, (sizeOf (Tryz.prog.elem 24)).run Tryz.prog W = .ok 1 W := fun _ => by kernel_rfl
  refine ⟨if n = 0 then a else a.map (·.add (0 * 1)), fun W => ?_, fun h0 => ?_⟩
  · rw [run_sliceAt_slice W _ _ _ _ _ ht, run_slice_hm W _ _ _ c ht .i64 .i64 (n : Int) (n : Int) (by omega) (by omega) (by omega), hs]
    simp only [Result.andThen, sliced, Int.toNat_natCast, Nat.sub_zero]
  · obtain ⟨h1, h2, h3⟩ := h
    rw [if_neg (by omega)]
    refine ⟨by rw [List.length_take]; omega, fun hnone => ?_, ?_⟩
    · have := h2 (Option.map_eq_none_iff.1 hnone)
      omega
    · rcases h3 with h0' | ⟨b, o, rfl, hb, hx⟩
      · left; rw [h0']; simp
      · right
        refine ⟨b, o, by simp [Addr.add], hb, fun j x hj => ?_⟩
        have hjl := (List.getElem?_eq_some_iff.1 hj).1
        rw [List.length_take] at hjl
        rw [List.getElem?_take, if_pos (by omega)] at hj
        exact hx j x hj

set_option maxHeartbeats 2000000 in
set_option maxRecDepth 100000 in
theorem open_ok (l o : List UInt8) {a : Option Addr} (c : Nat) (w : World) (hb : Bs w a l c) (hl : l.length ≤ 140737488351232) (h5 : 5 ≤ l.length) (ho : Fp.openB l = .ok o) :
    Calls Tryz.prog 62 #[.slice a l.length c] w fun e w' => ∃ v, e = .returned (.tuple #[v, .int .i64 0]) ∧ Own w.heap.size w' v o ∧ Below w.heap.size w w' := by
  have hs : Fp.sealB (l.take (l.length - 4)) = l ∧ o = l.take (l.length - 4) := by
    unfold Fp.openB at ho
    rw [if_neg (by omega)] at ho
    split at ho
    · rename_i h; cases ho; exact ⟨h, rfl⟩
    · cases ho
  obtain ⟨hsl, rfl⟩ := hs
  obtain ⟨n, hn⟩ : ∃ n, n = l.length - 4 := ⟨_, rfl⟩
  have hnl : l.length = n + 4 := by omega
  rw [← hn] at hsl ⊢
  clear ho hn
  obtain ⟨a1, k1, hb1⟩ := pre3 hb n (by omega) (n : Int) rfl
  obtain ⟨a2, k2, hb2⟩ := Mid.pre hb n (by omega) (n : Int) rfl
  have hb1 := hb1 (by omega)
  have hln : (l.take n).length = n := by rw [List.length_take]; omega
  have KC := Lib.hid (show ∀ W, Below w.heap.size w W → (convert 24 9 (.slice a l.length c)).run Tryz.prog W = .ok (.string ⟨l.toArray⟩) W from fun W hW => to_string (hb.below hW))
  have KS := Lib.hid (show ∀ W, Below w.heap.size w W → Calls Tryz.prog 27 #[.slice a1 n n] W fun e w' => ∃ v, e = .returned v ∧ Own W.heap.size w' v l ∧ Below W.heap.size W w' from fun W hW => by
    have := sealR (l.take n) n W (hb1.below hW) (by rw [hln]; omega)
    rw [hln, hsl] at this
    exact this)
  have HB2 := Lib.hid hb2
  have HLN := Lib.hid hln
  have HNL := Lib.hid hnl
  have e1 : decide ((l.length : Int) < 4) = false := decide_eq_false (by omega)
  have e2 : (l.length : Int) - 4 = (n : Int) := by omega
  have hbd := Lib.hid (show Below w.heap.size w w.drew from (Below.refl _ _).drew)
  clear hb hb1 hb2 hln hsl hnl
  go_enter Tryz.func62, Tryz.ntmps62
  go_upto_region 4 with fail
  clear e2 e1
  refine HeldH.region (fun W => Below w.heap.size w W) (by kernel_rfl) ?_
  refine HeldH.take (i := 0) (v := ?v0) rfl (by kernel_rfl) (by kernel_rfl) (by kernel_rfl) (fun _ _ _ h => h) hbd.out (by rfl) ?hy0 ?hr0
  case hy0 => intro W hSw; go_simp; try with_reducible rfl
  try simp only [Act.put, List.setIfInBounds_toArray]
  refine HeldH.take (i := 1) (v := ?v1) rfl (by kernel_rfl) (by kernel_rfl) (by kernel_rfl) (fun _ _ _ h => h) hbd.out (by rfl) ?hy1 ?hr1
  case hy1 => intro W hSw; go_simp; try with_reducible rfl
  try simp only [Act.put]
  refine HeldH.take (i := 2) (v := ?v2) rfl (by kernel_rfl) (by kernel_rfl) (by kernel_rfl) (fun _ _ _ h => h) hbd.out (by rfl) ?hy2 ?hr2
  case hy2 => intro W hSw; go_simp; try with_reducible rfl
  try simp only [Act.put]
  refine HeldH.take (i := 3) (v := ?v3) rfl (by kernel_rfl) (by kernel_rfl) (by kernel_rfl) (fun _ _ _ h => h) hbd.out (by rfl) ?hy3 ?hr3
  case hy3 => intro W hSw; go_simp; try with_reducible rfl
  try simp only [Act.put]
  refine HeldH.take (i := 6) (v := ?v6) rfl (by kernel_rfl) (by kernel_rfl) (by kernel_rfl) (fun _ _ _ h => h) hbd.out (by rfl) ?hy6 ?hr6
  case hy6 => intro W hSw; go_simp; try with_reducible rfl
  try simp only [Act.put]
  refine HeldH.take (i := 7) (v := ?v7) rfl (by kernel_rfl) (by kernel_rfl) (by kernel_rfl) (fun _ _ _ h => h) hbd.out (by rfl) ?hy7 ?hr7
  case hy7 => intro W hSw; have kc := KC.out W hSw; go_simp; try with_reducible rfl
  try simp only [Act.put]
  refine HeldH.one (i := 4) (by kernel_rfl) rfl (fun K hK => ?_)
  go_simp
  go_at_call 27
  refine (KS.out _ hbd.out).mono ?_
  rintro e w9 ⟨v, rfl, hO, hb9⟩
  try go_wp2_with fail
  have hb9' : Below w.heap.size w w9 := hbd.out.trans (hb9.mono hbd.out.size)
  refine hK.out _ _ hb9' ?_
  clear hK K
  try simp only [Act.put, List.setIfInBounds_toArray, List.set_cons_zero, List.set_cons_succ]
  obtain ⟨av, cv, rfl, hbv⟩ := hO.bs
  have kv := to_string hbv
  refine HeldH.one (i := 5) (by kernel_rfl) rfl (fun K hK => ?_)
  go_simp
  refine hK.out _ _ hb9' ?_
  clear hK K
  try simp only [Act.put, List.setIfInBounds_toArray, List.set_cons_zero, List.set_cons_succ]
  refine HeldH.one (i := 8) (by kernel_rfl) rfl (fun K hK => ?_)
  go_simp
  refine hK.out _ _ hb9' ?_
  clear hK K
  try simp only [Act.put, List.setIfInBounds_toArray, List.set_cons_zero, List.set_cons_succ]
  refine wpAnyH_done (by kernel_rfl) ?_ _
  have HB9 := Lib.hid hb9'
  clear hb9' hb9 hO hbv kv
  go_wp2_with (at_builtin; refine FrM.append_grow _ rfl (.tmp 20) (.tmp 23) rfl w9.heap.size [] (l.take n) (own_nil _ _ (Nat.le_refl _)) a2 c ((HB2.out.below HB9.out).below ((Below.refl _ _).alloc (Nat.le_refl _) _)) (Nat.le_of_lt (by simp)) (by have := HLN.out; have := HNL.out; simp; omega) rfl (by show _ = Value.slice a2 (l.take n).length c; rw [HLN.out]; rfl) ?_; rintro v7 w7 ho7 hg7 hb7)
  go_ret2
  rw [List.nil_append] at ho7
  exact ⟨v7, rfl, ho7.down HB9.out.size, (HB9.out.alloc HB9.out.size _).trans (hb7.mono HB9.out.size)⟩
end Go.Proofs.YtecnnlppinhmgaaGreatDoor.FrS
