/-
  The walk of package shelf's Has. A drawn region under a condition S that need not hold behind one operation z, for which all others are waited. The walk of package disk's Flip on a drive that holds one file.
-/
import Derived.Test.YtecnnlppinhmgaaGreatDoorSe02
import Derived.Test.YtecnnlppinhmgaaGreatDoorSe03
import Derived.Deep.RegionHeld3
import Derived.Maps.RangeWalk
namespace Go.Proofs.YtecnnlppinhmgaaGreatDoor.SfH
open Go.RowKit Go.Proofs.YtecnnlppinhmgaaGreatDoor Go.Proofs.YtecnnlppinhmgaaGreatDoor.HtW Go.Proofs.YtecnnlppinhmgaaGreatDoor.DiskB Go.Proofs.YtecnnlppinhmgaaGreatDoor.SfA Go.Proofs.YtecnnlppinhmgaaGreatDoor.SfB Go.Proofs.YtecnnlppinhmgaaGreatDoor.SfC Go.Proofs.YtecnnlppinhmgaaGreatDoor.IdBox

set_option maxHeartbeats 2000000 in
set_option maxRecDepth 100000 in
theorem has {lo d mb sb : Nat} {M : Dp.Files} {full : Bool} {lost : Int} {node : Nat} (x y z : Int) (f : List UInt8) (w0 w : World) {aL aB aD aN aF aG : Addr} (hE : Env w0 aL aB aD aN aF aG) (h0 : Below w0.heap.size w0 w) (hS : Sf w sb node d) (hd : Dw.Drive lo d mb w M full lost) (hM : ∀ p ∈ M, p.2.bytes.length ≤ 140737488351232) (hx : FrK.goodB x y z = true) (ha : askE M (nm 98 x y z) = .ok) (hf : rdL M (nm 98 x y z) = f) (hl : f.length ≤ 140737488351232) :
    Calls Tryz.prog 16 #[.pointer (some ⟨sb, 0, none⟩), .agg #[.int .i64 x, .int .i64 y, .int .i64 z]] w fun e w' => e = .returned (.bool (GetV f x y z node)) ∧ Below w.heap.size w w' := by
  obtain ⟨w1, hw1, hb1, hx1⟩ : ∃ w1, w1 = w.alloc (.cells #[.int .i64 x, .int .i64 y, .int .i64 z] 23) ∧ Below w.heap.size w w1 ∧ Ix w1 w.heap.size x y z := ⟨_, rfl, (Below.refl _ _).alloc (Nat.le_refl _) _, heap_alloc_new _ _⟩
  have KG := Lib.hid (SfC.get x y z f w0 w1 hE (h0.trans (hb1.mono h0.size)) (hS.below hb1) (hd.below hb1) hM hx ha hf hl)
  have HB1 := Lib.hid hb1
  obtain ⟨c0, c1, c2⟩ := hx1.cells
  clear hE h0 hS hd hM hx ha hf hb1 hx1
  cases hv : GetV f x y z node
  · rw [hv] at KG
    have KG := Lib.hid (show Calls Tryz.prog 14 #[.pointer (some ⟨sb, 0, none⟩), .agg #[.int .i64 x, .int .i64 y, .int .i64 z]] w1 fun e w' => e = .returned (.tuple #[.slice none 0 0, Err.ev aL]) ∧ Below w1.heap.size w1 w' from KG.out)
    clear hv
    go_enter Tryz.func16, Tryz.ntmps16
    go_upto_region 1 with fail
    rw [← hw1]
    clear hw1
    go_wp2_with (go_at_call 14; refine KG.out.mono ?_; rintro e w2 ⟨rfl, hb2⟩)
    go_ret
    exact ⟨rfl, HB1.out.trans (hb2.mono HB1.out.size)⟩
  · rw [hv] at KG
    have KG := Lib.hid (show Calls Tryz.prog 14 #[.pointer (some ⟨sb, 0, none⟩), .agg #[.int .i64 x, .int .i64 y, .int .i64 z]] w1 fun e w' => (∃ a c, e = .returned (.tuple #[.slice a f.length c, .nilIface]) ∧ Bs w' a f c) ∧ Below w1.heap.size w1 w' from KG.out)
    clear hv
    go_enter Tryz.func16, Tryz.ntmps16
    go_upto_region 1 with fail
    rw [← hw1]
    clear hw1
    go_wp2_with (go_at_call 14; refine KG.out.mono ?_; rintro e w2 ⟨⟨a2, c2', rfl, -⟩, hb2⟩)
    go_ret
    exact ⟨rfl, HB1.out.trans (hb2.mono HB1.out.size)⟩
end Go.Proofs.YtecnnlppinhmgaaGreatDoor.SfH
namespace Go.Proofs.YtecnnlppinhmgaaGreatDoor.HeldT
open Go

section
variable {P : Program} {ops : Array Oper} {Q : Exit → Act → World → Prop} {md : Region.Mode} {S : World → Prop} {z : Nat}

def wpAnyT (P : Program) (md : Region.Mode) (ops : Array Oper) (Q : Exit → Act → World → Prop) (S : World → Prop) (z : Nat) : Nat → Array Bool → Act → World → Prop
  | 0, listed, a, w => Region.ready md ops listed = [] ∧ Q .normal a w
  | fuel + 1, listed, a, w =>
    (Region.ready md ops listed = [] → Q .normal a w) ∧
    ∀ i ∈ Region.ready md ops listed, wpOp P ops Q i (fun a' w' => (i ≠ z → S w') ∧ wpAnyT P md ops Q S z fuel (listed.setIfInBounds i true) a' w') a w

theorem wpAny_of_T : ∀ (fuel : Nat) (listed : Array Bool) (a : Act) (w : World), wpAnyT P md ops Q S z fuel listed a w → wpAny P md ops Q fuel listed a w
  | 0, _, _, _, h => h
  | fuel + 1, _, _, _, h => ⟨h.1, fun i hi => wpOp_mono (fun a' w' h' => wpAny_of_T fuel _ a' w' h'.2) (h.2 i hi)⟩

def waits (md : Region.Mode) (ops : Array Oper) (z i : Nat) : Bool := ((ops[z]?).map (·.after.any fun e => Region.binds md e && e.on == i)).getD false
theorem waits_spec {i : Nat} {oz : Oper} (h : waits md ops z i = true) (hz : ops[z]? = some oz) : ∃ e ∈ oz.after, Region.binds md e = true ∧ e.on = i := by
  unfold waits at h
  rw [hz] at h
  obtain ⟨e, he, hb⟩ := Array.any_eq_true'.1 h
  simp only [Bool.and_eq_true, beq_iff_eq] at hb
  exact ⟨e, he, hb.1, hb.2⟩

theorem wpAnyT_first {i : Nat} {oi : Oper} {v : Value} (hi : ops[i]? = some oi) (hsel : ∀ (j : Nat) (o : Oper) cs b, ops[j]? = some o → o.op ≠ .select cs b)
    (hQ : ∀ c a w, Q (.panic c) (a.put oi.dst v) w → Q (.panic c) a w) (hz : waits md ops z i = true) :
    ∀ (fuel : Nat) (listed : Array Bool) (a : Act) (w : World),
      (∀ j oj, ops[j]? = some oj → j ≠ i → listed.getD j true = false → (∀ e ∈ oj.after, Region.binds md e = true → e.on ≠ i) → oi.apart ops oj = true) →
      i ∈ Region.ready md ops listed → YieldsIf P ops S oi v a → S w →
      wpAnyT P md ops Q S z fuel (listed.setIfInBounds i true) (a.put oi.dst v) w → wpAnyT P md ops Q S z (fuel + 1) listed a w := by
  intro fuel
  induction fuel with
  | zero =>
    intro listed a w _ hr hy hS H
    refine ⟨fun h => (by rw [h] at hr; cases hr), fun j hj => ?_⟩
    by_cases hji : j = i
    · subst hji; exact hy.wpOp hi hS ⟨fun _ => hS, H⟩
    · have := ready_mono hj hji
      rw [H.1] at this
      cases this
  | succ fuel ih =>
    intro listed a w hfree hr hy hS H
    refine ⟨fun h => (by rw [h] at hr; cases hr), fun j hj => ?_⟩
    by_cases hji : j = i
    · subst hji; exact hy.wpOp hi hS ⟨fun _ => hS, H⟩
    · have h1 := H.2 j (ready_mono hj hji)
      obtain ⟨hjun, oj, hoj, hall⟩ := mem_ready.1 hj
      have hnot : ∀ e ∈ oj.after, Region.binds md e = true → e.on ≠ i := fun e he hb heq => by
        have h1 := hall e he hb
        have h0 := (mem_ready.1 hr).1
        rw [heq] at h1
        rcases Nat.lt_or_ge i listed.size with h' | h'
        · simp [h'] at h0 h1; rw [h0] at h1; cases h1
        · simp [Array.getElem?_eq_none h'] at h1
      have hjz : j ≠ z := by
        rintro rfl
        obtain ⟨e, he, hb, heq⟩ := waits_spec hz hoj
        exact hnot e he hb heq
      have h2 := wpOp_putIf hoj (hfree j oj hoj hji hjun hnot) (fun cs b => hsel i oi cs b hi) (fun cs b => hsel j oj cs b hoj) hQ hy h1
      have hfree' : ∀ k ok, ops[k]? = some ok → k ≠ i → (listed.setIfInBounds j true).getD k true = false →
          (∀ e ∈ ok.after, Region.binds md e = true → e.on ≠ i) → oi.apart ops ok = true := fun k ok hk hki hun hno => by
        refine hfree k ok hk hki ?_ hno
        by_cases hjk : j = k
        · subst hjk; exact hjun
        · rw [getD_set_ne true hjk] at hun; exact hun
      refine wpOp_mono (fun a' w' h3 => ⟨h3.2.1, ih (listed.setIfInBounds j true) a' w' hfree' (ready_mono hr (Ne.symm hji)) h3.1 (h3.2.1 hjz) ?_⟩) h2
      rw [Array.setIfInBounds_comm _ _ hji]
      exact h3.2.2

theorem wpAnyT_take {i : Nat} {oi : Oper} {v : Value} {fuel : Nat} {listed : Array Bool} {a : Act} {w : World} (hi : ops[i]? = some oi)
    (hs : Region.noSelect ops = true) (hf : Region.free md ops listed i = true) (hr : (Region.ready md ops listed).contains i = true) (hz : waits md ops z i = true)
    (hQ : ∀ c a w, Q (.panic c) (a.put oi.dst v) w → Q (.panic c) a w) (hS : S w) (hw : Region.wanted oi (yielded ops a.tmps) = true) (hy : ∀ w, S w → (execOp a.eval oi).run P w = .ok (.value v) w)
    (h : wpAnyT P md ops Q S z fuel (listed.setIfInBounds i true) (a.put oi.dst v) w) : wpAnyT P md ops Q S z (fuel + 1) listed a w :=
  wpAnyT_first hi (Region.noSelect_spec hs) hQ hz fuel listed a w (Region.free_spec hi hf) (by simpa using hr) (.inl ⟨hw, hy⟩) hS h

theorem wpAnyT_one {i : Nat} {o : Oper} {fuel : Nat} {listed : Array Bool} {a : Act} {w : World} (hr : Region.ready md ops listed = [i]) (ho : ops[i]? = some o)
    (h : ∀ K' : Act → World → Prop, Shut (∀ a w, (i ≠ z → S w) → wpAnyT P md ops Q S z fuel (listed.setIfInBounds i true) a w → K' a w) → if Region.wanted o (yielded ops a.tmps) = true then Oper.wp P o a w K' Q else K' (a.put o.dst undef) w) :
    wpAnyT P md ops Q S z (fuel + 1) listed a w := by
  refine ⟨fun h0 => (by rw [hr] at h0; cases h0), fun j hj => ?_⟩
  rw [hr] at hj
  obtain rfl : j = i := List.mem_singleton.1 hj
  exact wpOp_step ho (fun K' hK => h K' (fun a w hS hW => hK a w ⟨hS, hW⟩))

theorem wpAnyT_done {listed : Array Bool} {a : Act} {w : World} (hr : Region.ready md ops listed = []) (h : Q .normal a w) :
    ∀ fuel, wpAnyT P md ops Q S z fuel listed a w
  | 0 => ⟨hr, h⟩
  | _ + 1 => ⟨fun _ => h, by rw [hr]; simp⟩

theorem wp_region_T {id : Nat} {a : Act} {w : World} (S : World → Prop) (z : Nat) (hm : P.follows .mixedOrders = true)
    (h : wpAnyT P .any ops Q S z ops.size (Array.replicate ops.size false) a w.drew) : (Code.region id ops true).wp P Q a w :=
  wp_region_any hm (wpAny_of_T _ _ _ _ h)
end
end Go.Proofs.YtecnnlppinhmgaaGreatDoor.HeldT
namespace Go.Proofs.YtecnnlppinhmgaaGreatDoor.DiskFl
open Go.RowKit Go.Maps Go.Sort Go.Proofs.YtecnnlppinhmgaaGreatDoor Go.WideShapes Go.WideMaps Go.Proofs.YtecnnlppinhmgaaGreatDoor.Dw Go.Proofs.YtecnnlppinhmgaaGreatDoor.DiskB

/-- which bit is turned -/
def bitOf (z : Int) (s : Nat) : Nat := (((z.tmod s + s).tmod s)).toNat
theorem bitOf_lt {z : Int} {s : Nat} (hs : 0 < s) : ((z.tmod s + s).tmod s) = (bitOf z s : Int) ∧ bitOf z s < s := by
  have h1 : -(s : Int) < z.tmod s := Int.lt_tmod_of_pos z (by omega)
  have h2 : z.tmod s < s := Int.tmod_lt_of_pos z (by omega)
  have h3 : 0 ≤ (z.tmod s + s).tmod s := Int.tmod_nonneg _ (by omega)
  have h4 : (z.tmod s + s).tmod s < s := Int.tmod_lt_of_pos _ (by omega)
  unfold bitOf
  omega
/-- bytes with one bit turned -/
def flipB (l : List UInt8) (k : Nat) : List UInt8 := l.set (k / 8) (l.getD (k / 8) 0 ^^^ (1 <<< (UInt8.ofNat (k % 8))))
theorem flip_len (l : List UInt8) (k : Nat) : (flipB l k).length = l.length := by unfold flipB; simp
theorem flip_ne {l : List UInt8} {k : Nat} (h : k < 8 * l.length) : flipB l k ≠ l := by
  intro e
  have h1 : k / 8 < l.length := by omega
  have h2 : (flipB l k)[k / 8]? = some (l.getD (k / 8) 0 ^^^ (1 <<< (UInt8.ofNat (k % 8)))) := by unfold flipB; rw [List.getElem?_set_self h1]
  rw [e, List.getD_eq_getElem?_getD, List.getElem?_eq_getElem h1] at h2
  simp only [Option.getD_some, Option.some.injEq] at h2
  generalize l[k / 8] = c at h2
  have hk : k % 8 < 8 := Nat.mod_lt _ (by decide)
  generalize k % 8 = j at hk h2
  have h3 : ∀ j, j < 8 → (1 <<< UInt8.ofNat j : UInt8) ≠ 0 := by decide
  refine h3 j hk ?_
  have h4 := congrArg (fun y => c ^^^ y) h2
  simp only [← UInt8.xor_assoc, UInt8.xor_self, UInt8.zero_xor] at h4
  exact h4.symm

theorem shl_j (P : Program) (j : Nat) (hj : j < 8) (W : World) : (Op.shift .shl .u8 1 .i64 (j : Int)).run P W = .ok (.int .u8 ((2 ^ j : Nat) : Int)) W := by
  match j, hj with
  | 0, _ => rfl
  | 1, _ => rfl
  | 2, _ => rfl
  | 3, _ => rfl
  | 4, _ => rfl
  | 5, _ => rfl
  | 6, _ => rfl
  | 7, _ => rfl
theorem xor_j : ∀ a : Nat, a < 256 → ∀ j : Nat, j < 8 → bits .xor .u8 (a : Int) ((2 ^ j : Nat) : Int) = ((UInt8.ofNat a ^^^ (1 <<< UInt8.ofNat j)).toNat : Int) := by decide +kernel
theorem xor_x (x : UInt8) (j : Nat) (hj : j < 8) : bits .xor .u8 (x.toNat : Int) ((2 ^ j : Nat) : Int) = ((x ^^^ (1 <<< UInt8.ofNat j)).toNat : Int) := by
  have := xor_j x.toNat (UInt8.toNat_lt x) j hj
  rwa [UInt8.ofNat_toNat] at this
/-- a map of one file -/
theorem one_has {Q : Value → Dp.File → Prop} {D : DataW Value} {n : List UInt8} {F : Dp.File} (h : Dp.Tie Q D [(n, F)]) (m : List UInt8) : Maps.has D (.string m) = decide (n = m) := by
  rw [h.has m]
  simp only [Dp.look]
  by_cases e : n = m <;> simp [e]

theorem key_inv {x : ByteArray} {kl : Lit} (h : keyOf Tryz.prog 9 (.string x) = some kl) : kl = .string x.data.toList := by
  by_cases hs : x.size ≤ maxLen
  · rw [keyOf_string_mk Tryz.underlying9 hs] at h
    exact (Option.some.inj h).symm
  · rw [keyOf_string Tryz.underlying9] at h
    simp [mapKey, Tryz.underlying9, hs] at h
theorem key_inv0 {key : Value} {kl : Lit} (h : keyOf Tryz.prog 9 key = some kl) : ∃ x, key = Value.string x := by
  rw [keyOf_string Tryz.underlying9] at h
  cases key <;> simp [mapKey, Tryz.underlying9] at h ⊢
theorem same_self (l : List UInt8) : (Lit.string l).sameKey (.string l) = true := by simp [Lit.sameKey]
theorem first {lo : Nat} {w : World} {D : DataW Value} {n : List UInt8} {F : Dp.File} (ht : Dp.Tie (FileIs lo w) D [(n, F)]) {x : ByteArray} {kl : Lit} {c : Value} {y : DataW Value × List MemPlace} (hkx : keyOf Tryz.prog 9 (.string x) = some kl) (hlk : Maps.has D kl = true) (hv : Dw.rd c = some y) (hat : ∀ zd, D.atKey kl zd = y.1) :
    x = ⟨n.toArray⟩ ∧ kl = .string n ∧ ∃ a1 c1 a2 c2, c = fileV a1 c1 a2 c2 F ∧ Dw.Bs lo w a1 F.bytes c1 ∧ Dw.Bs lo w a2 F.safe c2 := by
  obtain rfl := key_inv hkx
  have hn : n = x.data.toList := by
    rw [one_has ht] at hlk
    exact of_decide_eq_true hlk
  refine ⟨by rw [hn], by rw [hn], ?_⟩
  obtain ⟨_, v, hv1, a1, c1, a2, c2, rfl, h1, h2⟩ := ht.hit n F (by simp [Dp.look])
  obtain ⟨d, ps⟩ := y
  obtain rfl := rd_eq hv
  have h3 := hat (.held c)
  rw [← hn, hv1] at h3
  simp only [DataW.held.injEq] at h3
  exact ⟨a1, c1, a2, c2, h3.symm, h1, h2⟩

set_option maxHeartbeats 1000000 in
set_option maxRecDepth 100000 in
/-- a copy's bytes lie in a block of their own -/
theorem clone_own (p : Addr) (l : List UInt8) (c : Nat) (w : World) (hl : l.length ≤ 140737488351232) (h0 : l ≠ []) (hb : Dw.Bs 0 w (some p) l c) :
    Calls Tryz.prog 36 #[.slice (some p) l.length c] w fun e w' => (∃ b c' cur, e = .returned (.slice (some ⟨b, 0, none⟩) l.length c') ∧ w.heap.size ≤ b ∧ l.length ≤ c' ∧ w'.heap[b]? = some (.cells cur 5 (0, 0)) ∧ ∀ (j : Nat) x, l[j]? = some x → cur[j]? = some (.int .u8 (x.toNat : Int))) ∧ Below w.heap.size w w' := by
  obtain ⟨i0, hi, hz0, hz1, hz2⟩ := info_parts DiskA.infoByte
  have kn := fun (w : World) (a : Option Addr) (n c : Nat) => Lib.run_eql_slice_nil (P := Tryz.prog) w 24 5 a n c 0 0 Tryz.underlying24
  have H0 := Lib.hid h0
  clear h0
  go_enter Tryz.func36, Tryz.ntmps36
  have hown : (w.alloc (.cells #[] 5)).ownsRow w.heap.size 5 1 (.slice (some ⟨w.heap.size, 0, none⟩) 0 0) 0 [] :=
    ⟨rfl, .inr ⟨w.heap.size, 0, _, rfl, Nat.le_refl _, heap_alloc_new _ _, Nat.le_refl _, by unfold maxLen; omega, rfl, rfl⟩⟩
  go_wp2_with (at_builtin; refine wpList_append_own _ rfl _ _ 24 rfl w.heap.size 5 i0 (.int .u8 0) 1 1 Tryz.underlying24 hi hz0 hz1 hz2 rfl (by decide) _ _ _ rfl hown p l.length c (Lib.byteCells l) rfl (by simp [Com.byteCells_length]) ?c1 ?c2 ?c3 ?c4 ?c5 ?_)
  case c1 => exact (hb.below ((Below.refl _ _).alloc (Nat.le_refl _) _)).cells
  case c2 => exact Dw.one_cells l
  case c3 => unfold maxLen; omega
  case c4 => omega
  case c5 => simp
  intro v' w1 hown' hgrow _
  have hown1 : w1.ownsRow w.heap.size 5 1 v' l.length (Lib.byteCells l) := by simpa using hown'
  clear hown'
  have hbel : Below w.heap.size w w1 := ((Below.refl _ w).alloc (Nat.le_refl _) _).grown hgrow (by simp) (fun k hk => by simp [Value.ownBlock] at hk; omega)
  rcases hown1.2 with ⟨_, h⟩ | ⟨g, cap, cur, rfl, hg1, hg2, hg3, hg4, hg5, hg6⟩
  · exact absurd (List.length_eq_zero_iff.1 h) H0.out
  have HG := Lib.hid (show ∀ (j : Nat) x, l[j]? = some x → cur[j]? = some (.int .u8 (x.toNat : Int)) from fun j x hx => by
    have h1 : (Lib.byteCells l)[j]? = some (.int .u8 (x.toNat : Int)) := by simp [Lib.byteCells, hx]
    rw [← hg6, List.getElem?_take] at h1
    split at h1
    · simpa using h1
    · cases h1)
  have HR := Lib.hid hg2
  have HC := Lib.hid hg3
  have H1 := Lib.hid hg1
  clear hown1 hg1 hg2 hg3 hg4 hg5 hg6
  go_wp2
  go_ret
  exact ⟨⟨_, _, cur, rfl, H1.out, HC.out, HR.out, HG.out⟩, hbel⟩

set_option maxHeartbeats 4000000 in
set_option maxRecDepth 100000 in
theorem flip {lo d mb : Nat} {full : Bool} {lost : Int} (n : List UInt8) (F : Dp.File) (z : Int) (w : World) (hd : Drive lo d mb w [(n, F)] full lost) (hn : n.length ≤ maxLen) (h0 : F.bytes ≠ []) (hl : F.bytes.length ≤ 1048576) (_hz : -9223372036854775808 ≤ z ∧ z ≤ 9223372036854775807) :
    Calls Tryz.prog 13 #[.pointer (some ⟨d, 0, none⟩), .int .i64 z] w fun e w' => e = .returned (.bool true) ∧ Drive lo d mb w' [(n, ⟨flipB F.bytes (bitOf z (8 * F.bytes.length)), flipB F.bytes (bitOf z (8 * F.bytes.length)), true⟩)] full lost ∧ Keep [mb] w w' := by
  obtain ⟨D, ho, ht⟩ := hd.own
  have hup := hd.names_lt
  obtain ⟨hdl, hml⟩ := hup
  have c0 := hd.cell0
  have hsz : Maps.size D = 1 := ht.size
  go_enter Tryz.func13, Tryz.ntmps13
  go_wp2_with (at_range; refine wpList_range_own _ rfl _ 71 rfl 9 75 keyed Tryz.underlying71 rd mb _ D rfl ho ?_; intro w1 hrg1 hg1 hs1)
  go_frame
  refine wp_loop_rounds 2 ?_
  rw [rounds_succ]
  go_wp2_with (first
    | (at_next; refine wpList_next_ranges _ rfl _ rfl 9 keyed Dw.rd Value.string (fun v => v) (fun _ _ h => key_inv0 h) (fun v _ _ => ⟨v, rfl⟩) mb w.heap.size _ D _ _ rfl hrg1 (fun hc _ => absurd hc (by rw [hsz]; decide)) ?_; intro x c kl y w2 cnt2 hkx hlk hv hat hrg2 hlt hg2 hs2 hen; obtain ⟨rfl, rfl, a1, c1, a2, c2, rfl, hq1, hq2⟩ := first ht hkx hlk hv hat))
  have hb2 : Below w.heap.size w w2 := ⟨hg2.os.trans hg1.os, hg2.tape.trans hg1.tape, hg2.output.trans hg1.output, Nat.le_trans hg1.size hg2.size, fun k hk => (hg2.block k (by omega) (by simp; omega)).trans (hg1.block k hk (by simp))⟩
  obtain ⟨w3, hw3, hb3⟩ : ∃ w3, w3 = w2.alloc (.cells #[.slice a1 F.bytes.length c1, .slice a2 F.safe.length c2, .bool F.kept] 75) ∧ Below w2.heap.size w2 w3 := ⟨_, rfl, (Below.refl _ _).alloc (Nat.le_refl _) _⟩
  have hrg3 : w3.ranges Tryz.prog 9 Dw.rd mb w.heap.size [(n, F)].length D (fun z => Maps.has D z && !z.sameKey (.string n)) cnt2 := hw3 ▸ hrg2.alloc _
  have HB3 := Lib.hid (hb2.trans (hb3.mono hb2.size))
  have HD := Lib.hid hd
  have HT := Lib.hid ht
  have HB1 := Lib.hid hq1
  have HL := Lib.hid hl
  have HN := Lib.hid hn
  rw [← hw3]
  obtain ⟨S, hS⟩ : ∃ S, S = 8 * F.bytes.length := ⟨_, rfl⟩
  have eS : (8 * (F.bytes.length : Int)) = (S : Int) := by omega
  have hpos : 0 < S := by have := List.length_pos_iff.2 h0; omega
  obtain ⟨hk1, hk2⟩ := bitOf_lt (z := z) hpos
  have HK2 := Lib.hid hk2
  have HS := Lib.hid hS
  obtain ⟨k, hk⟩ : ∃ k, k = bitOf z S := ⟨_, rfl⟩
  have HKE := Lib.hid (show bitOf z (8 * F.bytes.length) = k by rw [hk, hS])
  rw [← hk] at hk1 HK2
  have t1 : -(S : Int) < z.tmod S := Int.lt_tmod_of_pos z (by omega)
  have t2 : z.tmod S < S := Int.tmod_lt_of_pos z (by omega)
  have hS2 : S ≤ 8388608 := by omega
  have hsne : ((S : Int) == 0) = false := by rw [beq_eq_false_iff_ne]; omega
  have hw1 : IntKind.i64.wrap (z.tmod S + S) = z.tmod S + S := IntWalk.i64_in _ ⟨by omega, by omega⟩
  clear hw3 hb3 hb2 hg1 hg2 hs1 hs2 hrg1 hrg2 hen hv hat hkx hlk hq1 hq2 hd hS hk hk2 hlt hl hn h0
  rw [rounds_succ]
  rw [eS]
  go_wp2_with (first
    | (at_next; refine wpList_next_ranges _ rfl _ rfl 9 keyed Dw.rd Value.string (fun v => v) (fun _ _ h => key_inv0 h) (fun v _ _ => ⟨v, rfl⟩) mb w.heap.size _ D _ _ rfl hrg3 (fun _ _ => ?_) (fun x' c' kl' y' w4 cnt4 hkx' hlk' hv' hat' _ _ _ _ _ => by { obtain ⟨-, rfl, -⟩ := first HT.out hkx' (by simp only [Bool.and_eq_true] at hlk'; exact hlk'.1) hv' hat'; rw [Bool.and_eq_true] at hlk'; exact absurd hlk'.2 (by rw [same_self]; decide) }))
    | (go_at_call 35; refine (DiskE.names _ (HD.out.below HB3.out) (by simp)).mono ?_; rintro e w4 ⟨⟨an, cn, rfl, hns⟩, hb4⟩))
  have HB4 := Lib.hid (HB3.out.trans (hb4.mono HB3.out.size))
  have hd4 := HD.out.below HB4.out
  have HD4 := Lib.hid hd4
  obtain ⟨bn, on, rfl, hbn1, hbn2, hcn⟩ : ∃ b o, an = some ⟨b, o, none⟩ ∧ w3.heap.size ≤ b ∧ b < w4.heap.size ∧ w4.cell? ⟨b, o, none⟩ = some (.string ⟨n.toArray⟩) := by
    rcases hns with h | ⟨b, o, h1, h2, h3, h4⟩
    · simp [Dp.names] at h
    · exact ⟨b, o, h1, h2, h3, by have := h4 0 n rfl; simpa using this⟩
  obtain ⟨D4, ho4, ht4⟩ := hd4.own
  obtain ⟨p1, q1, p2, q2, hL, hbs1, hbs2⟩ := looks_hit ht4 (l := n) (f := F) (by simp [Dp.look])
  have hszn : (⟨n.toArray⟩ : ByteArray).size ≤ maxLen := by rw [Com.size_mk]; exact HN.out
  have hL' : Looks D4 (⟨n.toArray⟩ : ByteArray).data.toList (.agg #[.slice p1 F.bytes.length q1, .slice p2 F.safe.length q2, .bool F.kept]) true := hL
  have HT4 := Lib.hid ht4
  have d0 := hd4.cell0
  have hdm := hd4.dmb
  have hdl4 := hd4.names_lt.1
  have hml4 := hd4.names_lt.2
  have e9 : decide ((k : Int) ≥ (S : Int)) = false := decide_eq_false (by have := HK2.out; omega)
  have hSk : ¬ S ≤ k := by have := HK2.out; omega
  have e9' : decide ((S : Int) ≤ (k : Int)) = false := decide_eq_false (by have := HK2.out; omega)
  obtain ⟨P1, rfl⟩ : ∃ P, p1 = some P := by
    rcases hbs1.2.2 with h | ⟨b, o, h, _⟩
    · exfalso
      have hz0 : F.bytes.length = 0 := by rw [h]; rfl
      omega
    · exact ⟨_, h⟩
  have KCL := Lib.hid (show ∀ W, Below w4.heap.size w4 W → Calls Tryz.prog 36 #[.slice (some P1) F.bytes.length q1] W fun e w' => (∃ b c' cur, e = .returned (.slice (some ⟨b, 0, none⟩) F.bytes.length c') ∧ W.heap.size ≤ b ∧ F.bytes.length ≤ c' ∧ w'.heap[b]? = some (.cells cur 5 (0, 0)) ∧ ∀ (j : Nat) x, F.bytes[j]? = some x → cur[j]? = some (.int .u8 (x.toNat : Int))) ∧ Below W.heap.size W w' from
    fun W hW => clone_own P1 F.bytes q1 W (by have := HL.out; omega) (fun h => by have hz0 : F.bytes.length = 0 := by { rw [h]; rfl }; omega) ((hbs1.below hW).lower (Nat.zero_le _)))
  clear hns hb4 hd4 hL ht4 hbs1 hbs2 hrg3 c0 ho
  refine wp_loop_rounds 1 ?_
  rw [rounds_succ]
  go_upto_region 16 with (first
    | (at_lookup; refine wpList_look1 rfl _ _ rfl rfl ho4 ⟨n.toArray⟩ rfl hszn hL' ?_)
    | (go_at_call 36; refine (KCL.out _ ((Below.refl _ _).alloc (Nat.le_refl _) _)).mono ?_; rintro e w6 ⟨⟨b6, c6, cur, rfl, hb61, hcc, hr6, hc6⟩, hb6⟩; obtain ⟨⟨x0, x1, x2⟩, hfz, hz6, hbx6⟩ := boxed hb6; have f0 := hfz 0))
  obtain ⟨G, hG⟩ : ∃ G, G = w4.heap.size := ⟨_, rfl⟩
  have hG6 : (w4.alloc (.cells #[.slice (some P1) F.bytes.length q1, .slice p2 F.safe.length q2, .bool F.kept] 75)).heap.size = G + 1 := by rw [hG]; simp
  rw [hG6] at hb61
  rw [← hG] at x0 x1 x2 hfz hz6 ⊢
  obtain ⟨w7, hw7⟩ : ∃ w7, w7 = w6.setCell ⟨G, 0, none⟩ (.slice (some ⟨b6, 0, none⟩) F.bytes.length c6) := ⟨_, rfl⟩
  have hbx : w6.heap[G]? = some (.cells #[.slice (some P1) F.bytes.length q1, .slice p2 F.safe.length q2, .bool F.kept] 75 (0, 0)) := (hb6.block _ (by rw [hG]; simp)).trans (by rw [hG]; exact heap_alloc_new _ _)
  have hbx7 : w7.heap[G]? = some (.cells #[.slice (some ⟨b6, 0, none⟩) F.bytes.length c6, .slice p2 F.safe.length q2, .bool F.kept] 75 (0, 0)) := by
    rw [hw7]
    simp only [World.setCell, Array.getElem?_modify, if_true, hbx]
    rfl
  have hr7 : w7.heap[b6]? = some (.cells cur 5 (0, 0)) := by
    rw [hw7, Below.heap_setCell _ _ _ _ (show b6 ≠ G by omega)]
    exact hr6
  have hk8 : k / 8 < F.bytes.length := by have := HK2.out; omega
  obtain ⟨x, hx⟩ : ∃ x, F.bytes[k / 8]? = some x := ⟨F.bytes[k / 8], List.getElem?_eq_getElem hk8⟩
  have cx : w7.cell? ⟨b6, k / 8, none⟩ = some (.int .u8 (x.toNat : Int)) := by rw [Lib.cell_of_heap hr7]; exact hc6 _ _ hx
  have y0 : w7.cell? ⟨G, 0, none⟩ = some (.slice (some ⟨b6, 0, none⟩) F.bytes.length c6) := by rw [Lib.cell_of_heap hbx7]; rfl
  have fz : w7.frozen? ⟨b6, k / 8, none⟩ = false := Lib.frozen_of_heap hr7 _
  have HR7 := Lib.hid hr7
  have HCC := Lib.hid hcc
  have H61 := Lib.hid hb61
  rw [← hw7]
  have HC6 := Lib.hid hc6
  have HBX7 := Lib.hid hbx7
  have HX := Lib.hid hx
  have HG := Lib.hid hG
  have HB6 := Lib.hid hb6
  have HW7 := Lib.hid hw7
  clear hw7 x0 x1 x2 hfz hz6 hbx6 f0 hbx hbx7 hG6 hG hc6 hx hcn hb6 hr6 hr7 hcc hb61
  have hw8 : IntKind.i64.wrap ((k : Int) / 8) = (k : Int) / 8 := IntWalk.i64_in _ ⟨by omega, by omega⟩
  have hw9 : IntKind.i64.wrap ((k : Int) % 8) = (k : Int) % 8 := IntWalk.i64_in _ ⟨by omega, by omega⟩
  have hlt8 : (k : Int) / 8 < (F.bytes.length : Int) := by omega
  have hge8 : 0 ≤ (k : Int) / 8 := by omega
  have htn8 : ((k : Int) / 8).toNat = k / 8 := by omega
  have hj8 : k % 8 < 8 := Nat.mod_lt _ (by decide)
  have etm : (k : Int).tmod 8 = ((k % 8 : Nat) : Int) := by rw [Int.tmod_eq_emod_of_nonneg (by omega)]; omega
  have hsh : ∀ W, (Op.shift .shl .u8 1 .i64 ((k : Int).tmod 8)).run Tryz.prog W = .ok (.int .u8 ((2 ^ (k % 8) : Nat) : Int)) W := fun W => by rw [etm]; exact shl_j _ _ hj8 W
  obtain ⟨X2, hX2⟩ : ∃ X2 : Nat, X2 = 2 ^ (k % 8) := ⟨_, rfl⟩
  rw [← hX2] at hsh
  have hxx := xor_x x (k % 8) hj8
  rw [← hX2] at hxx
  have HXX := Lib.hid hxx
  clear etm hX2 hxx
  have hSS : w7.drew.cell? ⟨G, 0, none⟩ = some (.slice (some ⟨b6, 0, none⟩) F.bytes.length c6) ∧ w7.drew.cell? ⟨b6, k / 8, none⟩ = some (.int .u8 (x.toNat : Int)) := ⟨y0, cx⟩
  refine HeldT.wp_region_T (fun W => W.cell? ⟨G, 0, none⟩ = some (.slice (some ⟨b6, 0, none⟩) F.bytes.length c6) ∧ W.cell? ⟨b6, k / 8, none⟩ = some (.int .u8 (x.toNat : Int))) 11 (by kernel_rfl) ?_
  refine HeldT.wpAnyT_take (i := 0) (v := ?v0) rfl (by kernel_rfl) (by kernel_rfl) (by kernel_rfl) (by kernel_rfl) (fun _ _ _ h => h) hSS (by rfl) ?hy0 ?hr0
  case hy0 => intro W hSw; go_simp; try with_reducible rfl
  try simp only [Act.put, List.setIfInBounds_toArray]
  refine HeldT.wpAnyT_take (i := 1) (v := ?v1) rfl (by kernel_rfl) (by kernel_rfl) (by kernel_rfl) (by kernel_rfl) (fun _ _ _ h => h) hSS (by rfl) ?hy1 ?hr1
  case hy1 => intro W hSw; go_simp; try with_reducible rfl
  try simp only [Act.put]
  refine HeldT.wpAnyT_take (i := 2) (v := ?v2) rfl (by kernel_rfl) (by kernel_rfl) (by kernel_rfl) (by kernel_rfl) (fun _ _ _ h => h) hSS (by rfl) ?hy2 ?hr2
  case hy2 => intro W hSw; go_simp; try with_reducible rfl
  try simp only [Act.put]
  refine HeldT.wpAnyT_take (i := 3) (v := ?v3) rfl (by kernel_rfl) (by kernel_rfl) (by kernel_rfl) (by kernel_rfl) (fun _ _ _ h => h) hSS (by rfl) ?hy3 ?hr3
  case hy3 => intro W hSw; go_simp; try with_reducible rfl
  try simp only [Act.put]
  refine HeldT.wpAnyT_take (i := 4) (v := ?v4) rfl (by kernel_rfl) (by kernel_rfl) (by kernel_rfl) (by kernel_rfl) (fun _ _ _ h => h) hSS (by rfl) ?hy4 ?hr4
  case hy4 => intro W hSw; go_simp; try with_reducible rfl
  try simp only [Act.put]
  refine HeldT.wpAnyT_take (i := 5) (v := ?v5) rfl (by kernel_rfl) (by kernel_rfl) (by kernel_rfl) (by kernel_rfl) (fun _ _ _ h => h) hSS (by rfl) ?hy5 ?hr5
  case hy5 => intro W hSw; go_simp; try with_reducible rfl
  try simp only [Act.put]
  refine HeldT.wpAnyT_take (i := 6) (v := ?v6) rfl (by kernel_rfl) (by kernel_rfl) (by kernel_rfl) (by kernel_rfl) (fun _ _ _ h => h) hSS (by rfl) ?hy6 ?hr6
  case hy6 => intro W hSw; go_simp; try with_reducible rfl
  try simp only [Act.put]
  refine HeldT.wpAnyT_take (i := 7) (v := ?v7) rfl (by kernel_rfl) (by kernel_rfl) (by kernel_rfl) (by kernel_rfl) (fun _ _ _ h => h) hSS (by rfl) ?hy7 ?hr7
  case hy7 => intro W hSw; go_simp; try with_reducible rfl
  try simp only [Act.put]
  refine HeldT.wpAnyT_take (i := 8) (v := ?v8) rfl (by kernel_rfl) (by kernel_rfl) (by kernel_rfl) (by kernel_rfl) (fun _ _ _ h => h) hSS (by rfl) ?hy8 ?hr8
  case hy8 => intro W hSw; go_simp; try with_reducible rfl
  try simp only [Act.put]
  refine HeldT.wpAnyT_take (i := 9) (v := ?v9) rfl (by kernel_rfl) (by kernel_rfl) (by kernel_rfl) (by kernel_rfl) (fun _ _ _ h => h) hSS (by rfl) ?hy9 ?hr9
  case hy9 => intro W hSw; go_simp; try with_reducible rfl
  try simp only [Act.put]
  refine HeldT.wpAnyT_take (i := 10) (v := ?v10) rfl (by kernel_rfl) (by kernel_rfl) (by kernel_rfl) (by kernel_rfl) (fun _ _ _ h => h) hSS (by rfl) ?hy10 ?hr10
  case hy10 => intro W hSw; go_simp; try with_reducible rfl
  try simp only [Act.put]
  refine HeldT.wpAnyT_one (i := 11) (by kernel_rfl) rfl (fun K hK => ?_)
  go_simp
  refine hK.out _ _ (fun h => absurd rfl h) ?_
  clear hK K
  refine HeldT.wpAnyT_done (by kernel_rfl) ?_ _
  rw [HXX.out]
  obtain ⟨V, hV⟩ : ∃ V : Value, V = .int .u8 ((x ^^^ (1 <<< UInt8.ofNat (k % 8))).toNat : Int) := ⟨_, rfl⟩
  rw [← hV]
  obtain ⟨w8, hw8'⟩ : ∃ w8, w8 = (w7.setCell ⟨b6, k / 8, none⟩ V).drew := ⟨_, rfl⟩
  have hGb : G ≠ b6 := by have := H61.out; omega
  have hbx8 : w8.heap[G]? = some (.cells #[.slice (some ⟨b6, 0, none⟩) F.bytes.length c6, .slice p2 F.safe.length q2, .bool F.kept] 75 (0, 0)) := by
    rw [hw8']
    show (w7.setCell ⟨b6, k / 8, none⟩ V).heap[G]? = _
    rw [Below.heap_setCell _ _ _ _ hGb]
    exact HBX7.out
  have hr8 : w8.heap[b6]? = some (.cells (cur.setIfInBounds (k / 8) V) 5 (0, 0)) := by
    rw [hw8']
    show (w7.setCell ⟨b6, k / 8, none⟩ V).heap[b6]? = _
    simp only [World.setCell, Array.getElem?_modify, if_true, HR7.out]
    rfl
  have hB8 : Below w4.heap.size w4 w8 := by
    rw [hw8', HW7.out]
    have h1 : Below w4.heap.size w4 w6 := ((Below.refl _ _).alloc (Nat.le_refl _) _).trans (HB6.out.mono (by simp))
    exact ((h1.setCell (p := ⟨G, 0, none⟩) (Nat.le_of_eq HG.out.symm) _).setCell (p := ⟨b6, k / 8, none⟩) (by have := H61.out; have := HG.out; simp; omega) _).drew
  have u0 : w8.cell? ⟨G, 0, none⟩ = some (.slice (some ⟨b6, 0, none⟩) F.bytes.length c6) := by rw [Lib.cell_of_heap hbx8]; rfl
  have u1 : w8.cell? ⟨G, 1, none⟩ = some (.slice p2 F.safe.length q2) := by rw [Lib.cell_of_heap hbx8]; rfl
  have u2 : w8.cell? ⟨G, 2, none⟩ = some (.bool F.kept) := by rw [Lib.cell_of_heap hbx8]; rfl
  have z1 : w8.frozen? ⟨G, 1, none⟩ = false := Lib.frozen_of_heap hbx8 _
  have z2 : w8.frozen? ⟨G, 2, none⟩ = false := Lib.frozen_of_heap hbx8 _
  rw [← hw8']
  have HBX8 := Lib.hid hbx8
  have HR8 := Lib.hid hr8
  have HB8 := Lib.hid hB8
  have HV := Lib.hid hV
  clear hw8' hbx8 hr8 hB8 hV y0 cx fz hSS hsh
  go_upto_region 18 with fail
  obtain ⟨w9, hw9'⟩ : ∃ w9, w9 = (w8.setCell ⟨G, 1, none⟩ (.slice (some ⟨b6, 0, none⟩) F.bytes.length c6)).setCell ⟨G, 2, none⟩ (.bool true) := ⟨_, rfl⟩
  have hbx9 : w9.heap[G]? = some (.cells #[.slice (some ⟨b6, 0, none⟩) F.bytes.length c6, .slice (some ⟨b6, 0, none⟩) F.bytes.length c6, .bool true] 75 (0, 0)) := by
    rw [hw9']
    simp only [World.setCell, Array.getElem?_modify, if_true, HBX8.out]
    rfl
  have hr9 : w9.heap[b6]? = some (.cells (cur.setIfInBounds (k / 8) V) 5 (0, 0)) := by
    rw [hw9', Below.heap_setCell _ _ _ _ (fun e => hGb e.symm), Below.heap_setCell _ _ _ _ (fun e => hGb e.symm)]
    exact HR8.out
  have hB9 : Below w4.heap.size w4 w9 := by
    rw [hw9']
    exact (HB8.out.setCell (p := ⟨G, 1, none⟩) (Nat.le_of_eq HG.out.symm) _).setCell (p := ⟨G, 2, none⟩) (Nat.le_of_eq HG.out.symm) _
  rw [← hw9']
  clear hw9' u0 u1 u2 z1 z2
  have v0 : w9.cell? ⟨G, 0, none⟩ = some (.slice (some ⟨b6, 0, none⟩) F.bytes.length c6) := by rw [Lib.cell_of_heap hbx9]; rfl
  have v1 : w9.cell? ⟨G, 1, none⟩ = some (.slice (some ⟨b6, 0, none⟩) F.bytes.length c6) := by rw [Lib.cell_of_heap hbx9]; rfl
  have v2 : w9.cell? ⟨G, 2, none⟩ = some (.bool true) := by rw [Lib.cell_of_heap hbx9]; rfl
  have dd0 : w9.cell? ⟨d, 0, none⟩ = some (.map (some mb)) := (hB9.cell (p := ⟨d, 0, none⟩) hdl4).trans d0
  have ho9 := ownsMap_below ho4 hB9
  have HO9 := Lib.hid ho9
  have HB9 := Lib.hid hB9
  have HR9 := Lib.hid hr9
  have HF := Lib.hid (show F.bytes.length ≤ c6 from HCC.out)
  have HC6b := Lib.hid HC6.out
  clear d0 ho9 hB9 hbx9 hr9
  refine region_tail 6 (by kernel_rfl) ?_
  simp only [List.take_succ_cons, List.take_zero, List.drop_succ_cons, List.drop_zero]
  repeat still_step
  refine wpStill_nil ?_
  go_wp2_with (at_mapUpdate; refine wpList_store rfl _ _ _ rfl rfl (ownsMap_below HO9.out (Below.refl _ _).drew) (by simp) ⟨n.toArray⟩ rfl hszn _ rfl ?_; intro w10 ho10 ht10)
  go_ret
  have hb9 : Below w4.heap.size w4 w9.drew := HB9.out.drew
  have hkp : Keep [mb] w4 w10 := (Keep.of_below hb9 _).trans (Keep.of_turned ht10)
  have hK4 : Keep [mb] w w10 := (Keep.of_below HB4.out _).trans hkp
  have hlo : ∀ q ∈ [mb], q < lo := by simp; exact HD.out.mlo
  have hfl : (flipB F.bytes k).length = F.bytes.length := flip_len _ _
  have hbs : Dw.Bs lo w10 (some ⟨b6, 0, none⟩) (flipB F.bytes k) c6 := by
    have h9 : Dw.Bs lo w9 (some ⟨b6, 0, none⟩) (flipB F.bytes k) c6 := by
      refine ⟨by rw [hfl]; exact HF.out, (fun h => by cases h), .inr ⟨b6, 0, rfl, ?_, (Array.getElem?_eq_some_iff.1 HR9.out).1, fun j y hy => ?_⟩⟩
      · have h1 := HD4.out.low
        have h2 := H61.out
        have h3 := HG.out
        omega
      · rw [Nat.zero_add, Lib.cell_of_heap HR9.out]
        unfold flipB at hy
        by_cases hj : k / 8 = j
        · subst hj
          rw [List.getElem?_set_self hk8] at hy
          cases hy
          have hcs : k / 8 < cur.size := by
            have := HC6b.out _ _ HX.out
            exact (Array.getElem?_eq_some_iff.1 this).1
          rw [Array.getElem?_setIfInBounds_self_of_lt hcs, HV.out, List.getD_eq_getElem?_getD, HX.out]
          rfl
        · rw [List.getElem?_set_ne hj] at hy
          rw [Array.getElem?_setIfInBounds_ne hj]
          exact HC6b.out _ _ hy
    exact (h9.below (Below.refl _ _).drew).keep (Keep.of_turned ht10) hlo
  refine ⟨rfl, ?_, hK4⟩
  rw [HKE.out]
  have htie := (HT4.out.mono fun v f hf => hf.keep hkp hlo).put (n := n) (v := .agg #[.slice (some ⟨b6, 0, none⟩) F.bytes.length c6, .slice (some ⟨b6, 0, none⟩) F.bytes.length c6, .bool true]) (f := ⟨flipB F.bytes k, flipB F.bytes k, true⟩) ⟨some ⟨b6, 0, none⟩, c6, some ⟨b6, 0, none⟩, c6, by rw [← hfl], hbs, hbs⟩
  rw [show Dp.put [(n, F)] n ⟨flipB F.bytes k, flipB F.bytes k, true⟩ = [(n, ⟨flipB F.bytes k, flipB F.bytes k, true⟩)] by simp [Dp.put, List.lt_irrefl]] at htie
  exact HD.out.turned hK4 ho10 htie
end Go.Proofs.YtecnnlppinhmgaaGreatDoor.DiskFl
