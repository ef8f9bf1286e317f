/-
  The walk of the document's Sign, where it signs nothing. The walk of the document's Sign, where it signs. The document's Sign at every request.
-/
import Derived.Test.YtidflagmdabfaaaGreatDoorSg16
import Derived.Test.YtidflagmdabfaaaGreatDoorSg18
import Derived.Test.YtidflagmdabfaaaGreatDoorSg22
import Derived.Test.YtidflagmdabfaaaGreatDoorSg24
import Derived.Test.YtidflagmdabfaaaGreatDoorSc06
import Derived.Test.YtidflagmdabfaaaGreatDoorSc07
import Derived.Deep.CutRange
namespace Go.Proofs.YtidflagmdabfaaaGreatDoor.RsU
open Go.RowKit Go.Proofs.YtidflagmdabfaaaGreatDoor Go.Proofs.YtidflagmdabfaaaGreatDoor.HtW Go.Proofs.YtidflagmdabfaaaGreatDoor.HtC Go.Proofs.YtidflagmdabfaaaGreatDoor.Lf Go.Proofs.YtidflagmdabfaaaGreatDoor.App Go.Proofs.YtidflagmdabfaaaGreatDoor.ShaG Go.Proofs.YtidflagmdabfaaaGreatDoor.SgB Go.Proofs.YtidflagmdabfaaaGreatDoor.SgC

set_option maxHeartbeats 4000000 in
set_option maxRecDepth 100000 in
theorem rsign_no (m t bd : List UInt8) (fs : List Sg.Fld) (n s : List UInt8) {ab af : Option Addr} (cb cf : Nat) (date : Int) (w : World) {er : Sg.Er} (hb : Bs w ab bd cb) (ht : t.length ≤ 16777215) (hm : m.length ≤ 16777216) (hbl : bd.length ≤ 140737488350000) (h0 : -9223372036854775808 ≤ date) (h1 : date ≤ 9223372036854775807)
    (hno : Sg.text m t bd date = .no er) :
    Calls Tryz.prog 38 #[.agg #[.string ⟨m.toArray⟩, .string ⟨t.toArray⟩, .slice af fs.length cf, .slice ab bd.length cb], .agg #[.string ⟨n.toArray⟩, .string ⟨s.toArray⟩], .int .i64 date] w fun e w' => e = .returned (.tuple #[noReq, .int .i64 er.num]) ∧ Below w.heap.size w w' := by
  have HB := Lib.hid hb; clear hb
  obtain ⟨w3, hw3, hb3, hz3, hq3, hk3, hr3⟩ : ∃ w3 : World, w3 = (((w.alloc (.cells #[.string ⟨m.toArray⟩, .string ⟨t.toArray⟩, .slice af fs.length cf, .slice ab bd.length cb] 25)).alloc (.cells #[.string ⟨n.toArray⟩, .string ⟨s.toArray⟩] 71)).alloc (.cells #[.string ⟨#[]⟩, .string ⟨#[]⟩, .slice none 0 0, .slice none 0 0] 25)) ∧ Below w.heap.size w w3 ∧ w3.heap.size = w.heap.size + 3 ∧ Rq (w.heap.size + 2) w3 (.string ⟨#[]⟩) (.string ⟨#[]⟩) (.slice none 0 0) (.slice none 0 0) ∧ w3.heap[w.heap.size + 1]? = some (.cells #[.string ⟨n.toArray⟩, .string ⟨s.toArray⟩] 71 (0, 0)) ∧ Rq w.heap.size w3 (.string ⟨m.toArray⟩) (.string ⟨t.toArray⟩) (.slice af fs.length cf) (.slice ab bd.length cb) := by
    refine ⟨_, rfl, (((Below.refl _ _).alloc (Nat.le_refl _) _).alloc (by simp) _).alloc (by simp; omega) _, by simp, ?_, (Below.heap_alloc _ _ _ (by simp)).trans (heap_alloc_at1 _ _), (Below.heap_alloc _ _ _ (by simp; omega)).trans ((Below.heap_alloc _ _ _ (by simp)).trans (heap_alloc_new _ _))⟩
    have := heap_alloc_new ((w.alloc (.cells #[.string ⟨m.toArray⟩, .string ⟨t.toArray⟩, .slice af fs.length cf, .slice ab bd.length cb] 25)).alloc (.cells #[.string ⟨n.toArray⟩, .string ⟨s.toArray⟩] 71)) (.cells #[.string ⟨#[]⟩, .string ⟨#[]⟩, .slice none 0 0, .slice none 0 0] 25)
    rwa [World.size_alloc, World.size_alloc] at this
  have hT := RsT.rtext m t bd (.slice af fs.length cf) cb date w3 (HB.out.below hb3) ht hm hbl h0 h1
  rw [hno, hw3, show RsT.rv (.no er) = .tuple #[.string ⟨#[]⟩, .int .i64 er.num] from rfl] at hT
  have KT := Lib.hid hT; clear hT
  have HN0 : ((er.num : Nat) : Int) ≠ 0 := by cases er <;> decide
  obtain ⟨v, hv⟩ : ∃ v : Int, v = (er.num : Int) := ⟨_, rfl⟩
  rw [← hv] at HN0 KT ⊢
  clear hv
  have hn1 : (v == 0) = false := beq_eq_false_iff_ne.2 HN0
  have hn2 : decide (v = 0) = false := decide_eq_false HN0
  go_enter Tryz.func38, Tryz.ntmps38
  go_wp2_with (go_at_call 37; refine KT.out.mono ?_; rintro e w4 ⟨rfl, hb4⟩; rw [← hw3] at hb4; have hq4 := hq3.below hb4; obtain ⟨r0, r1, r2, r3, f0, f1, f2, f3⟩ := hq4.cells)
  refine bodyPost_ret (Rq.run6 (hq4.put (.string ⟨#[]⟩) (.string ⟨#[]⟩) (.slice none 0 0) (.slice none 0 0)) rfl rfl rfl) rfl ⟨rfl, ?_⟩
  exact below_four' (hb3.trans (hb4.mono (by omega))) (by omega) _ _ _ _
set_option maxHeartbeats 4000000 in
set_option maxRecDepth 100000 in
theorem rsign_req (m t bd : List UInt8) (fs : List Sg.Fld) (n s : List UInt8) {ab af : Option Addr} (cb cf : Nat) (date : Int) (w : World) {x : List UInt8} (hb : Bs w ab bd cb) (ht : t.length ≤ 16777215) (hm : m.length ≤ 16777216) (hbl : bd.length ≤ 140737488350000) (h0 : -9223372036854775808 ≤ date) (h1 : date ≤ 9223372036854775807)
    (hno : Sg.text m t bd date = .ok x) (hnl : n.length ≤ 16777216) (hg : Sg.goodName n = false) :
    Calls Tryz.prog 38 #[.agg #[.string ⟨m.toArray⟩, .string ⟨t.toArray⟩, .slice af fs.length cf, .slice ab bd.length cb], .agg #[.string ⟨n.toArray⟩, .string ⟨s.toArray⟩], .int .i64 date] w fun e w' => e = .returned (.tuple #[noReq, .int .i64 13]) ∧ Below w.heap.size w w' := by
  have HB := Lib.hid hb; clear hb
  obtain ⟨w3, hw3, hb3, hz3, hq3, hk3, hr3⟩ : ∃ w3 : World, w3 = (((w.alloc (.cells #[.string ⟨m.toArray⟩, .string ⟨t.toArray⟩, .slice af fs.length cf, .slice ab bd.length cb] 25)).alloc (.cells #[.string ⟨n.toArray⟩, .string ⟨s.toArray⟩] 71)).alloc (.cells #[.string ⟨#[]⟩, .string ⟨#[]⟩, .slice none 0 0, .slice none 0 0] 25)) ∧ Below w.heap.size w w3 ∧ w3.heap.size = w.heap.size + 3 ∧ Rq (w.heap.size + 2) w3 (.string ⟨#[]⟩) (.string ⟨#[]⟩) (.slice none 0 0) (.slice none 0 0) ∧ w3.heap[w.heap.size + 1]? = some (.cells #[.string ⟨n.toArray⟩, .string ⟨s.toArray⟩] 71 (0, 0)) ∧ Rq w.heap.size w3 (.string ⟨m.toArray⟩) (.string ⟨t.toArray⟩) (.slice af fs.length cf) (.slice ab bd.length cb) := by
    refine ⟨_, rfl, (((Below.refl _ _).alloc (Nat.le_refl _) _).alloc (by simp) _).alloc (by simp; omega) _, by simp, ?_, (Below.heap_alloc _ _ _ (by simp)).trans (heap_alloc_at1 _ _), (Below.heap_alloc _ _ _ (by simp; omega)).trans ((Below.heap_alloc _ _ _ (by simp)).trans (heap_alloc_new _ _))⟩
    have := heap_alloc_new ((w.alloc (.cells #[.string ⟨m.toArray⟩, .string ⟨t.toArray⟩, .slice af fs.length cf, .slice ab bd.length cb] 25)).alloc (.cells #[.string ⟨n.toArray⟩, .string ⟨s.toArray⟩] 71)) (.cells #[.string ⟨#[]⟩, .string ⟨#[]⟩, .slice none 0 0, .slice none 0 0] 25)
    rwa [World.size_alloc, World.size_alloc] at this
  have hT := RsT.rtext m t bd (.slice af fs.length cf) cb date w3 (HB.out.below hb3) ht hm hbl h0 h1
  rw [hno, hw3, show RsT.rv (.ok x) = .tuple #[.string ⟨x.toArray⟩, .int .i64 0] from rfl] at hT
  have KT := Lib.hid hT; clear hT
  go_enter Tryz.func38, Tryz.ntmps38
  go_wp2_with (first
    | (go_at_call 37; refine KT.out.mono ?_; rintro e w4 ⟨rfl, hb4⟩; rw [← hw3] at hb4; have hq4 := hq3.below hb4; obtain ⟨r0, r1, r2, r3, f0, f1, f2, f3⟩ := hq4.cells; have k4 := (hb4.block _ (by omega)).trans hk3; have k0 := Lib.cell_of_heap (j := 0) k4)
    | (go_at_call 42; refine (RgN.goodNameR ⟨n.toArray⟩ _ (by rw [Com.size_mk]; omega)).mono ?_; rintro e w5 ⟨rfl, hw5⟩; subst hw5; rw [show Sg.goodName (ByteArray.mk n.toArray).data.toList = false from hg]))
  refine bodyPost_ret (Rq.run6 (hq4.put (.string ⟨#[]⟩) (.string ⟨#[]⟩) (.slice none 0 0) (.slice none 0 0)) rfl rfl rfl) rfl ⟨rfl, ?_⟩
  exact below_four' (hb3.trans (hb4.mono (by omega))) (by omega) _ _ _ _
end Go.Proofs.YtidflagmdabfaaaGreatDoor.RsU
namespace Go.Proofs.YtidflagmdabfaaaGreatDoor.RsV
open Go.RowKit Go.Proofs.YtidflagmdabfaaaGreatDoor Go.Proofs.YtidflagmdabfaaaGreatDoor.HtW Go.Proofs.YtidflagmdabfaaaGreatDoor.HtC Go.Proofs.YtidflagmdabfaaaGreatDoor.Lf Go.Proofs.YtidflagmdabfaaaGreatDoor.App Go.Proofs.YtidflagmdabfaaaGreatDoor.ShaG Go.Proofs.YtidflagmdabfaaaGreatDoor.SgB Go.Proofs.YtidflagmdabfaaaGreatDoor.SgC Go.Proofs.YtidflagmdabfaaaGreatDoor.SgD Go.Proofs.YtidflagmdabfaaaGreatDoor.HeldT

theorem sigD (x s : List UInt8) (d : Int) (w : World) (h0 : 0 ≤ d) (h1 : d ≤ 9223372036854775807) (hx : x.length ≤ 140737488340000) (hs : s.length ≤ 140737488340000) :
    Calls Tryz.prog 41 #[.string ⟨x.toArray⟩, .string ⟨s.toArray⟩, .int .i64 d] w fun e w' => e = .returned (.string ⟨(Sg.sigOf x s d).toArray⟩) ∧ Below w.heap.size w w' := by
  obtain ⟨k, rfl⟩ := Int.eq_ofNat_of_zero_le h0
  exact RsS.rsig x s k w hx hs (by omega)
/-- the box of what is made, its fields in a row of their own -/
def Su (w4 : World) (p : Nat) (m t : List UInt8) (fv bv : Value) (L : List Sg.Fld) (W : World) : Prop :=
  W.ownsRow w4.heap.size 91 2 fv L.length (fcells L) ∧ Rq p W (.string ⟨m.toArray⟩) (.string ⟨t.toArray⟩) fv bv ∧ Below w4.heap.size w4 W
theorem Su.next {w4 W W' : World} {p : Nat} {m t : List UInt8} {fv bv : Value} {L : List Sg.Fld} (h : Su w4 p m t fv bv L W) (hb : Below W.heap.size W W') : Su w4 p m t fv bv L W' :=
  ⟨Com.own_below h.1 hb, h.2.1.below hb, h.2.2.trans (hb.mono h.2.2.size)⟩

theorem step_append_one {ops : Array Oper} {o : Oper} {A : Act} {w : World} {K : Act → World → Prop} {Q : Exit → Act → World → Prop} {E : Prop} (hg : o.guard = none) (s x : Operand) (hop : o.op = Op.call { callee := Callee.builtin Builtin.append, args := #[s, x], argTypes := #[22, 22] })
    (base : Nat) (v : Value) (L : List Sg.Fld) (a b : ByteArray) (hs : A.eval s = v) (hown : w.ownsRow base 91 2 v L.length (fcells L)) (hx : A.eval x = .slice (some ⟨w.heap.size, 0, none⟩) 1 1) (hl : L.length ≤ 4294967300) (hbase : base ≤ w.heap.size)
    (hK : ∀ v' w', w'.ownsRow base 91 2 v' (L.length + 1) (fcells L ++ [.string a, .string b]) → (w.alloc (.cells #[.string a, .string b] 91)).grownBy w' v.ownBlock → K (A.put o.dst v') w') :
    if Region.wanted o (yielded ops A.tmps) = true then Oper.wp Tryz.prog o A (w.alloc (.cells #[.string a, .string b] 91)) K Q else E := by
  have hw : Region.wanted o (yielded ops A.tmps) = true := by simp [Region.wanted, hg]
  rw [if_pos hw]
  obtain ⟨i0, hi, hz0, hz1, hz2⟩ := info_parts infoField
  refine wp_append_own (w.alloc (.cells #[.string a, .string b] 91)) s x 22 hop base 91 i0 (.agg #[.string ⟨#[]⟩, .string ⟨#[]⟩]) 2 32 Tryz.underlying22 hi hz0 hz1 hz2 rfl (by decide) v L.length _ hs (hown.alloc _) ⟨w.heap.size, 0, none⟩ 1 1 [.string a, .string b] hx rfl (two_cells w _ _ _ _ rfl) ?_ (by unfold maxLen; omega) (by omega) (by rw [World.size_alloc]; omega) ?_
  · intro u hu
    simp only [List.mem_cons, List.not_mem_nil, or_false] at hu
    rcases hu with rfl | rfl <;> rfl
  · intro v' w' h1 h2 _
    exact hK v' w' h1 h2
/-- a field more, stored -/
theorem Su.more {w4 W W' : World} {p : Nat} {m t : List UInt8} {fv bv v' : Value} {L : List Sg.Fld} {o : Obj} {a b : List UInt8} (h : Su w4 p m t fv bv L W) (hp4 : w4.heap.size ≤ p) (h1 : W'.ownsRow w4.heap.size 91 2 v' (L.length + 1) (fcells L ++ [.string ⟨a.toArray⟩, .string ⟨b.toArray⟩])) (h2 : (W.alloc o).grownBy W' fv.ownBlock) :
    ∃ g c, v' = .slice (some ⟨g, 0, none⟩) (L.length + 1) c ∧ W'.cell? ⟨p, 2, none⟩ = some fv ∧ W'.frozen? ⟨p, 2, none⟩ = false ∧ Below w4.heap.size w4 W' ∧ Su w4 p m t (.slice (some ⟨g, 0, none⟩) (L ++ [(a, b)]).length c) bv (L ++ [(a, b)]) (W'.setCell ⟨p, 2, none⟩ (.slice (some ⟨g, 0, none⟩) (L.length + 1) c)) := by
  obtain ⟨g, c, rfl, hq, q1, q2⟩ := SgD.more (h.1.alloc o) h1 h2 (h.2.1.below ((Below.refl _ _).alloc (Nat.le_refl _) _)) (show 25 ≠ 91 by decide)
  have hU := below_more (h.2.2.alloc h.2.2.size o) (h.1.alloc o) h2 (Nat.le_trans h.2.2.size (World.size_le_alloc _ _))
  have ho : W'.ownsRow w4.heap.size 91 2 (.slice (some ⟨g, 0, none⟩) (L ++ [(a, b)]).length c) (L ++ [(a, b)]).length (fcells (L ++ [(a, b)])) := by
    rw [fcells_snoc, List.length_append]
    exact h1
  refine ⟨g, c, rfl, q1, q2, hU, own_keep ho (fun g' hg => Below.heap_setCell _ _ _ _ (fun e => own_ne ho hq (show 25 ≠ 91 by decide) (hg.trans (congrArg some e)))), ?_, hU.setCell hp4 _⟩
  rw [List.length_append]
  exact Rq.put3 hq _

set_option maxHeartbeats 4000000 in
set_option maxRecDepth 100000 in
theorem rsign_yes (m t bd : List UInt8) (fs : List Sg.Fld) (n s : List UInt8) {ab af : Option Addr} (cb cf : Nat) (date : Int) (w : World) {x : List UInt8} (hb : Bs w ab bd cb) (hf : Fs w af fs) (ht : t.length ≤ 16777215) (hm : m.length ≤ 16777216) (hbl : bd.length ≤ 140737488350000) (h0 : 0 ≤ date) (h1 : date ≤ 9223372036854775807)
    (hno : Sg.text m t bd date = .ok x) (hnl : n.length ≤ 16777216) (hsl : s.length ≤ 140737488340000) (hfl : fs.length ≤ 4294967296) (hxl : x.length ≤ 140737488340000) (hg : Sg.goodName n = true) :
    Calls Tryz.prog 38 #[.agg #[.string ⟨m.toArray⟩, .string ⟨t.toArray⟩, .slice af fs.length cf, .slice ab bd.length cb], .agg #[.string ⟨n.toArray⟩, .string ⟨s.toArray⟩], .int .i64 date] w fun e w' => (∃ a2 c2, e = .returned (.tuple #[.agg #[.string ⟨m.toArray⟩, .string ⟨t.toArray⟩, .slice a2 (Sg.others fs ++ Sg.two date n (Sg.sigOf x s date)).length c2, .slice ab bd.length cb], .int .i64 0]) ∧ Fs w' a2 (Sg.others fs ++ Sg.two date n (Sg.sigOf x s date))) ∧ Below w.heap.size w w' := by
  have HB := Lib.hid hb; clear hb
  have HF := Lib.hid hf; clear hf
  obtain ⟨w3, hw3, hb3, hz3, hq3, hk3, hr3⟩ : ∃ w3 : World, w3 = (((w.alloc (.cells #[.string ⟨m.toArray⟩, .string ⟨t.toArray⟩, .slice af fs.length cf, .slice ab bd.length cb] 25)).alloc (.cells #[.string ⟨n.toArray⟩, .string ⟨s.toArray⟩] 71)).alloc (.cells #[.string ⟨#[]⟩, .string ⟨#[]⟩, .slice none 0 0, .slice none 0 0] 25)) ∧ Below w.heap.size w w3 ∧ w3.heap.size = w.heap.size + 3 ∧ Rq (w.heap.size + 2) w3 (.string ⟨#[]⟩) (.string ⟨#[]⟩) (.slice none 0 0) (.slice none 0 0) ∧ w3.heap[w.heap.size + 1]? = some (.cells #[.string ⟨n.toArray⟩, .string ⟨s.toArray⟩] 71 (0, 0)) ∧ Rq w.heap.size w3 (.string ⟨m.toArray⟩) (.string ⟨t.toArray⟩) (.slice af fs.length cf) (.slice ab bd.length cb) := by
    refine ⟨_, rfl, (((Below.refl _ _).alloc (Nat.le_refl _) _).alloc (by simp) _).alloc (by simp; omega) _, by simp, ?_, (Below.heap_alloc _ _ _ (by simp)).trans (heap_alloc_at1 _ _), (Below.heap_alloc _ _ _ (by simp; omega)).trans ((Below.heap_alloc _ _ _ (by simp)).trans (heap_alloc_new _ _))⟩
    have := heap_alloc_new ((w.alloc (.cells #[.string ⟨m.toArray⟩, .string ⟨t.toArray⟩, .slice af fs.length cf, .slice ab bd.length cb] 25)).alloc (.cells #[.string ⟨n.toArray⟩, .string ⟨s.toArray⟩] 71)) (.cells #[.string ⟨#[]⟩, .string ⟨#[]⟩, .slice none 0 0, .slice none 0 0] 25)
    rwa [World.size_alloc, World.size_alloc] at this
  have hT := RsT.rtext m t bd (.slice af fs.length cf) cb date w3 (HB.out.below hb3) ht hm hbl (by omega) h1
  rw [hno, hw3, show RsT.rv (.ok x) = .tuple #[.string ⟨x.toArray⟩, .int .i64 0] from rfl] at hT
  have KT := Lib.hid hT; clear hT
  go_enter Tryz.func38, Tryz.ntmps38
  go_upto_region 7 with (first
    | (go_at_call 37; refine KT.out.mono ?_; rintro e w4 ⟨rfl, hb4⟩; rw [← hw3] at hb4; have hk4 := (hb4.block _ (by omega)).trans hk3; have k0 := Lib.cell_of_heap (j := 0) hk4; have hr4 := hr3.below hb4; obtain ⟨b0, b1, b2, b3, -, -, -, -⟩ := hr4.cells)
    | (go_at_call 42; refine (RgN.goodNameR ⟨n.toArray⟩ _ (by rw [Com.size_mk]; omega)).mono ?_; rintro e w5 ⟨rfl, hw5⟩; subst hw5; rw [show Sg.goodName (ByteArray.mk n.toArray).data.toList = true from hg]))
  have hB4 : Below w.heap.size w w4 := hb3.trans (hb4.mono (by omega))
  have hb5 := (Below.refl w4.heap.size w4).alloc (Nat.le_refl _) (.cells #[.string ⟨m.toArray⟩, .string ⟨t.toArray⟩, .slice none 0 0, .slice ab bd.length cb] 25)
  have hQ5 : Rq w4.heap.size (w4.alloc (.cells #[.string ⟨m.toArray⟩, .string ⟨t.toArray⟩, .slice none 0 0, .slice ab bd.length cb] 25)) _ _ _ _ := heap_alloc_new w4 _
  have hr5 := hr4.below hb5
  generalize w4.alloc (.cells #[.string ⟨m.toArray⟩, .string ⟨t.toArray⟩, .slice none 0 0, .slice ab bd.length cb] 25) = w5 at *
  obtain ⟨p, hp⟩ : ∃ p, p = w4.heap.size := ⟨_, rfl⟩
  rw [← hp] at hQ5 ⊢
  have HFW := Lib.hid (show Fs w4 af fs from HF.out.below hB4)
  have HQ := Lib.hid hQ5
  have HU := Lib.hid hb5
  have HK4 := Lib.hid hk4
  have HQ4 := Lib.hid (hq3.below hb4)
  have HB4' := Lib.hid hB4
  have hp4 : w4.heap.size ≤ p := by omega
  have HP := Lib.hid hp
  have HZ := Lib.hid (show w.heap.size + 2 < w4.heap.size by have := hb4.size; omega)
  obtain ⟨x0, x1, x2, x3, -, -, -, -⟩ := hr5.cells
  clear KT hw3 hk3 hr3 hq3 k0 hk4 hr4 hr5 b0 b1 b2 b3 hb3 hb4 hz3 hb5 hQ5 hB4 hp
  go_wp2_with fail
  clear x0 x1 x2 x3
  go_loopg [38] fs.length (fun g v38 wr => ∃ (k : Nat) (a2 : Option Addr) (c2 : Nat), k + g = fs.length ∧ v38 = .int .i64 k ∧ Hid (Rq p wr (.string ⟨m.toArray⟩) (.string ⟨t.toArray⟩) (.slice a2 (Sg.others (fs.take k)).length c2) (.slice ab bd.length cb)) ∧ Hid (wr.ownsRow w4.heap.size 91 2 (.slice a2 (Sg.others (fs.take k)).length c2) (Sg.others (fs.take k)).length (fcells (Sg.others (fs.take k)))) ∧ Hid (Below w4.heap.size w4 wr))
  case atStart => exact ⟨0, none, 0, by omega, rfl, HQ.out, ⟨rfl, .inl ⟨rfl, rfl⟩⟩, HU.out⟩
  case round =>
    clear HQ HU
    obtain ⟨k, a2, c2, hkg, rfl, HQ, HO2, HU⟩ := hrel
    have HG := Lib.hid hkg
    by_cases hlt : k < fs.length
    · obtain ⟨q, hq⟩ : ∃ q, fs[k]? = some q := ⟨_, List.getElem?_eq_getElem hlt⟩
      obtain ⟨nm, vl⟩ := q
      obtain ⟨b, o, rfl, hbl', c0, c1⟩ := Fs.at (HFW.out.below HU.out) hq
      simp only at c0 c1
      have HMo := Lib.hid (others_more hq)
      have hpl := HQ.out.lt
      obtain ⟨y0, y1, y2, y3, -, -, f2, -⟩ := HQ.out.cells
      have hole := others_le fs k
      have z0 : (0 : Int) ≤ (k : Int) := by omega
      have z1 : (k : Int) < (fs.length : Int) := by omega
      clear hkg hq
      by_cases e1 : nm = [120, 45, 100, 97, 116, 101]
      · have hkf : keep (nm, vl) = false := by rw [e1]; rfl
        rw [if_neg (by rw [hkf]; decide), List.append_nil] at HMo
        go_wp2_with fail
        rw [← HMo.out] at HQ HO2
        go_roundg (fs.length - (k + 1))
        case measure => have := HG.out; omega
        case rel => exact ⟨k + 1, a2, c2, by have := HG.out; omega, by go_num, HQ.out.below ((Below.refl _ _).alloc (Nat.le_refl _) _), HO2.out.alloc _, HU.out.alloc HU.out.size _⟩
      · have t1 : (nm == [120, 45, 100, 97, 116, 101]) = false := by rw [beq_eq_false_iff_ne]; exact e1
        by_cases e2 : nm = [97, 117, 116, 104, 111, 114, 105, 122, 97, 116, 105, 111, 110]
        · have hkf : keep (nm, vl) = false := by rw [e2]; rfl
          rw [if_neg (by rw [hkf]; decide), List.append_nil] at HMo
          go_wp2_with fail
          rw [← HMo.out] at HQ HO2
          go_roundg (fs.length - (k + 1))
          case measure => have := HG.out; omega
          case rel => exact ⟨k + 1, a2, c2, by have := HG.out; omega, by go_num, HQ.out.below ((Below.refl _ _).alloc (Nat.le_refl _) _), HO2.out.alloc _, HU.out.alloc HU.out.size _⟩
        · have t2 : (nm == [97, 117, 116, 104, 111, 114, 105, 122, 97, 116, 105, 111, 110]) = false := by rw [beq_eq_false_iff_ne]; exact e2
          have hkt : keep (nm, vl) = true := by
            show (!(nm == Sg.xdate) && !(nm == Sg.auth)) = true
            rw [show (nm == Sg.xdate) = false from t1, show (nm == Sg.auth) = false from t2]
            rfl
          rw [if_pos hkt] at HMo
          obtain ⟨i0, hi, hz0, hz1, hz2⟩ := info_parts infoField
          have hzr := HU.out.size
          go_wp2_with (at_builtin; go_loud (refine wpList_append_own _ rfl (.tmp 51) (.tmp 53) 22 rfl w4.heap.size 91 i0 (.agg #[.string ⟨#[]⟩, .string ⟨#[]⟩]) 2 32 Tryz.underlying22 hi hz0 hz1 hz2 rfl (by decide) _ _ _ rfl ((HO2.out.alloc _).alloc _) ⟨wr.heap.size + 1, 0, none⟩ 1 1 [.string ⟨nm.toArray⟩, .string ⟨vl.toArray⟩] rfl rfl (two_cells _ _ _ _ _ (World.size_alloc _ _)) (by simp [Value.oneCell']) (by unfold maxLen; omega) (by omega) (by simp; omega) ?_; intro v' W5 hown' hgrow _; obtain ⟨g4, cap4, rfl, hQ5, q1, q2⟩ := more ((HO2.out.alloc _).alloc _) hown' hgrow (HQ.out.below (((Below.refl wr.heap.size wr).alloc (Nat.le_refl _) _).alloc (World.size_le_alloc _ _) _)) (show 25 ≠ 91 by decide)))
          have hOF : W5.ownsRow w4.heap.size 91 2 (.slice (some ⟨g4, 0, none⟩) (Sg.others (fs.take (k + 1))).length cap4) (Sg.others (fs.take (k + 1))).length (fcells (Sg.others (fs.take (k + 1)))) := by
            rw [HMo.out, fcells_snoc, List.length_append]
            exact hown'
          have hgp : g4 ≠ p := fun e => own_ne hown' (show Rq p W5 _ _ _ _ from hQ5) (show 25 ≠ 91 by decide) (by rw [← e]; rfl)
          have hUB : Below w4.heap.size w4 W5 := below_more ((HU.out.alloc HU.out.size _).alloc (Nat.le_trans HU.out.size (World.size_le_alloc _ _)) _) ((HO2.out.alloc _).alloc _) hgrow (Nat.le_trans HU.out.size (Nat.le_trans (World.size_le_alloc _ _) (World.size_le_alloc _ _)))
          go_roundg (fs.length - (k + 1))
          case measure => have := HG.out; omega
          case rel => exact ⟨k + 1, some ⟨g4, 0, none⟩, cap4, by have := HG.out; omega, by go_num, (by rw [HMo.out, List.length_append]; exact Rq.put3 hQ5 _), own_keep hOF (fun g hg => Below.heap_setCell _ _ _ _ (fun e => own_ne hOF (show Rq p W5 _ _ _ _ from hQ5) (show 25 ≠ 91 by decide) (hg.trans (congrArg some e)))), hUB.setCell hp4 _⟩
    · obtain rfl : k = fs.length := by omega
      rw [List.take_length] at HQ HO2
      have HS0 := Lib.hid (show Su w4 p m t (.slice a2 (Sg.others fs).length c2) (.slice ab bd.length cb) (Sg.others fs) wr from ⟨HO2.out, HQ.out, HU.out⟩)
      have KI := Lib.hid (show ∀ W : World, Su w4 p m t (.slice a2 (Sg.others fs).length c2) (.slice ab bd.length cb) (Sg.others fs) W → Calls Tryz.prog 58 #[.int .i64 date] W fun e w' => e = .returned (.string ⟨(Lib.itoa date).toArray⟩) ∧ Su w4 p m t (.slice a2 (Sg.others fs).length c2) (.slice ab bd.length cb) (Sg.others fs) w' from fun W hW => by
        obtain ⟨k, rfl⟩ := Int.eq_ofNat_of_zero_le h0
        refine (DecW.decimal k (by omega) W).mono ?_
        rintro e w9 ⟨rfl, hb9⟩
        exact ⟨by unfold Lib.itoa; rw [if_neg (by omega)]; rfl, hW.next hb9⟩)
      have hLl : (Sg.others fs).length ≤ fs.length := List.length_filter_le _ _
      obtain ⟨I0, hI0⟩ : ∃ V, V = Lib.itoa date := ⟨_, rfl⟩
      obtain ⟨L, hL0⟩ : ∃ V, V = Sg.others fs := ⟨_, rfl⟩
      rw [← hI0] at KI
      rw [← hL0] at KI HS0 hLl HQ HO2
      have HI0 := Lib.hid hI0
      have HL0 := Lib.hid hL0
      clear hI0 hL0
      obtain ⟨y0, y1, y2, y3, -, -, -, -⟩ := HQ.out.cells
      have hSd : Su w4 p m t (.slice a2 L.length c2) (.slice ab bd.length cb) L wr.drew := HS0.out.next (Below.refl _ _).drew
      have HSd := Lib.hid hSd
      have z1 : ¬ ((fs.length : Int) < (fs.length : Int)) := by omega
      clear hSd hkg
      go_wp2_with fail
      refine wp_region_T (fun W => W.cell? ⟨p, 2, none⟩ = some (.slice a2 L.length c2) ∧ Below w4.heap.size w4 W) 8 (by kernel_rfl) ?_
      refine wpAnyT_take (i := 0) (v := ?v0) rfl (by kernel_rfl) (by kernel_rfl) (by kernel_rfl) (by kernel_rfl) (fun _ _ _ h => h) ⟨HSd.out.2.1.cells.2.2.1, HSd.out.2.2⟩ (by rfl) ?hy0 ?hr0
      case hy0 => intro w hSw; go_simp; try with_reducible rfl
      try simp only [Act.put, List.setIfInBounds_toArray]
      refine wpAnyT_take (i := 1) (v := ?v1) rfl (by kernel_rfl) (by kernel_rfl) (by kernel_rfl) (by kernel_rfl) (fun _ _ _ h => h) ⟨HSd.out.2.1.cells.2.2.1, HSd.out.2.2⟩ (by rfl) ?hy1 ?hr1
      case hy1 => intro w hSw; go_simp; try with_reducible rfl
      try simp only [Act.put]
      refine wpAnyT_take (i := 2) (v := ?v2) rfl (by kernel_rfl) (by kernel_rfl) (by kernel_rfl) (by kernel_rfl) (fun _ _ _ h => h) ⟨HSd.out.2.1.cells.2.2.1, HSd.out.2.2⟩ (by rfl) ?hy2 ?hr2
      case hy2 => intro w hSw; go_simp; try with_reducible rfl
      try simp only [Act.put]
      refine wpAnyT_one (i := 3) (by kernel_rfl) rfl (fun K hK => ?_)
      go_simp
      go_at_call 58
      refine (KI.out _ HSd.out).mono ?_
      rintro e w9 ⟨rfl, hS9⟩
      try go_wp2_with fail
      refine hK.out _ _ (fun _ => ⟨hS9.2.1.cells.2.2.1, hS9.2.2⟩) ?_
      clear hK K
      try simp only [Act.put, List.setIfInBounds_toArray, List.set_cons_zero, List.set_cons_succ]
      refine wpAnyT_take (i := 4) (v := ?v4) rfl (by kernel_rfl) (by kernel_rfl) (by kernel_rfl) (by kernel_rfl) (fun _ _ _ h => h) ⟨hS9.2.1.cells.2.2.1, hS9.2.2⟩ (by rfl) ?hy4 ?hr4
      case hy4 => intro w hSw; go_simp; try with_reducible rfl
      try simp only [Act.put, List.setIfInBounds_toArray]
      refine wpAnyT_one (i := 5) (by kernel_rfl) rfl (fun K hK => ?_)
      go_simp
      refine hK.out _ _ (fun _ => ⟨(hS9.next ((Below.refl _ _).alloc (Nat.le_refl _) _)).2.1.cells.2.2.1, (hS9.next ((Below.refl _ _).alloc (Nat.le_refl _) _)).2.2⟩) ?_
      clear hK K
      try simp only [Act.put, List.setIfInBounds_toArray, List.set_cons_zero, List.set_cons_succ]
      refine wpAnyT_one (i := 6) (by kernel_rfl) rfl (fun K hK => ?_)
      refine step_append_one (by rfl) (.tmp 58) (.tmp 62) (by rfl) w4.heap.size (.slice a2 L.length c2) L _ _ (by rfl) hS9.1 (by rfl) (by omega) (by exact hS9.2.2.size) ?_
      intro v' w6 ho6 hg6
      obtain ⟨g6, c6, rfl, q1, q2, hU6, hS6⟩ := hS9.more (a := Sg.xdate) hp4 ho6 hg6
      refine hK.out _ _ (fun _ => ⟨q1, hU6⟩) ?_
      clear hK K
      try simp only [Act.put, List.setIfInBounds_toArray]
      refine wpAnyT_take (i := 7) (v := ?v7) rfl (by kernel_rfl) (by kernel_rfl) (by kernel_rfl) (by kernel_rfl) (fun _ _ _ h => h) ⟨q1, hU6⟩ (by rfl) ?hy7 ?hr7
      case hy7 => intro w hSw; go_simp; try with_reducible rfl
      try simp only [Act.put]
      refine wpAnyT_one (i := 8) (by kernel_rfl) rfl (fun K hK => ?_)
      go_simp
      refine hK.out _ _ (fun h => absurd rfl h) ?_
      clear hK K
      refine wpAnyT_done (by kernel_rfl) ?_ _
      obtain ⟨W6, hW6⟩ : ∃ W, W = w6.setCell ⟨p, 2, none⟩ (.slice (some ⟨g6, 0, none⟩) (L.length + 1) c6) := ⟨_, rfl⟩
      rw [← hW6] at hS6 ⊢
      clear hW6 ho6 hg6 q1 q2 hU6 hS9 y0 y1 y2 y3 HSd HS0 KI HU HQ HO2
      obtain ⟨L1, hL1⟩ : ∃ V, V = L ++ [(Sg.xdate, I0)] := ⟨_, rfl⟩
      have hLL : L.length + 1 = L1.length := by rw [hL1, List.length_append]; rfl
      have HL1 := Lib.hid hL1
      rw [← hL1] at hS6
      rw [hLL]
      clear hL1
      obtain ⟨V0, hV0⟩ : ∃ V, V = Sg.sigOf x s date := ⟨_, rfl⟩
      have HV0 := Lib.hid hV0
      have hvl : V0.length = 64 := by rw [hV0]; exact SgL.sig_len _ _ _
      clear hV0
      have KB := Lib.hid (show ∀ W : World, Below w4.heap.size w4 W → W.cell? ⟨w.heap.size + 1, 0, none⟩ = some (.string ⟨n.toArray⟩) ∧ W.cell? ⟨w.heap.size + 1, 1, none⟩ = some (.string ⟨s.toArray⟩) from fun W hW => ⟨Lib.cell_of_heap (j := 0) ((hW.block _ (by have := HZ.out; omega)).trans HK4.out), Lib.cell_of_heap (j := 1) ((hW.block _ (by have := HZ.out; omega)).trans HK4.out)⟩)
      have KS := Lib.hid (show ∀ W : World, Su w4 p m t (.slice (some ⟨g6, 0, none⟩) L1.length c6) (.slice ab bd.length cb) L1 W → Calls Tryz.prog 41 #[.string ⟨x.toArray⟩, .string ⟨s.toArray⟩, .int .i64 date] W fun e w' => e = .returned (.string ⟨V0.toArray⟩) ∧ Su w4 p m t (.slice (some ⟨g6, 0, none⟩) L1.length c6) (.slice ab bd.length cb) L1 w' from fun W hW => by
        refine (sigD x s date W h0 h1 hxl hsl).mono ?_
        rintro e w9 ⟨rfl, hb9⟩
        exact ⟨by rw [HV0.out], hW.next hb9⟩)
      have HSe := Lib.hid (hS6.next (Below.refl _ _).drew)
      have s1 : ¬ 9223372036854775807 < 9 + n.length := by omega
      have s2 : ¬ 9223372036854775807 < 9 + n.length + 1 := by omega
      have s3 : ¬ 9223372036854775807 < 9 + n.length + 1 + V0.length := by omega
      have hl1 : L1.length ≤ 4294967300 := by omega
      clear hvl
      go_wp2_with fail
      refine wp_region_T (fun W => ((W.cell? ⟨w.heap.size + 1, 0, none⟩ = some (.string ⟨n.toArray⟩) ∧ W.cell? ⟨w.heap.size + 1, 1, none⟩ = some (.string ⟨s.toArray⟩)) ∧ W.cell? ⟨p, 2, none⟩ = some (.slice (some ⟨g6, 0, none⟩) L1.length c6)) ∧ Below w4.heap.size w4 W) 16 (by kernel_rfl) ?_
      refine wpAnyT_take (i := 0) (v := ?vb0) rfl (by kernel_rfl) (by kernel_rfl) (by kernel_rfl) (by kernel_rfl) (fun _ _ _ h => h) ⟨⟨KB.out _ HSe.out.2.2, HSe.out.2.1.cells.2.2.1⟩, HSe.out.2.2⟩ (by rfl) ?hyb0 ?hrb0
      case hyb0 => intro w hSw; go_simp; try with_reducible rfl
      try simp only [Act.put, List.setIfInBounds_toArray]
      refine wpAnyT_take (i := 1) (v := ?vb1) rfl (by kernel_rfl) (by kernel_rfl) (by kernel_rfl) (by kernel_rfl) (fun _ _ _ h => h) ⟨⟨KB.out _ HSe.out.2.2, HSe.out.2.1.cells.2.2.1⟩, HSe.out.2.2⟩ (by rfl) ?hyb1 ?hrb1
      case hyb1 => intro w hSw; go_simp; try with_reducible rfl
      try simp only [Act.put]
      refine wpAnyT_take (i := 2) (v := ?vb2) rfl (by kernel_rfl) (by kernel_rfl) (by kernel_rfl) (by kernel_rfl) (fun _ _ _ h => h) ⟨⟨KB.out _ HSe.out.2.2, HSe.out.2.1.cells.2.2.1⟩, HSe.out.2.2⟩ (by rfl) ?hyb2 ?hrb2
      case hyb2 => intro w hSw; go_simp; try with_reducible rfl
      try simp only [Act.put]
      refine wpAnyT_take (i := 3) (v := ?vb3) rfl (by kernel_rfl) (by kernel_rfl) (by kernel_rfl) (by kernel_rfl) (fun _ _ _ h => h) ⟨⟨KB.out _ HSe.out.2.2, HSe.out.2.1.cells.2.2.1⟩, HSe.out.2.2⟩ (by rfl) ?hyb3 ?hrb3
      case hyb3 => intro w hSw; go_simp; try with_reducible rfl
      try simp only [Act.put]
      refine wpAnyT_take (i := 4) (v := ?vb4) rfl (by kernel_rfl) (by kernel_rfl) (by kernel_rfl) (by kernel_rfl) (fun _ _ _ h => h) ⟨⟨KB.out _ HSe.out.2.2, HSe.out.2.1.cells.2.2.1⟩, HSe.out.2.2⟩ (by rfl) ?hyb4 ?hrb4
      case hyb4 => intro w hSw; go_simp; try with_reducible rfl
      try simp only [Act.put]
      refine wpAnyT_take (i := 5) (v := ?vb5) rfl (by kernel_rfl) (by kernel_rfl) (by kernel_rfl) (by kernel_rfl) (fun _ _ _ h => h) ⟨⟨KB.out _ HSe.out.2.2, HSe.out.2.1.cells.2.2.1⟩, HSe.out.2.2⟩ (by rfl) ?hyb5 ?hrb5
      case hyb5 => intro w hSw; go_simp; try with_reducible rfl
      try simp only [Act.put]
      refine wpAnyT_take (i := 6) (v := ?vb6) rfl (by kernel_rfl) (by kernel_rfl) (by kernel_rfl) (by kernel_rfl) (fun _ _ _ h => h) ⟨⟨KB.out _ HSe.out.2.2, HSe.out.2.1.cells.2.2.1⟩, HSe.out.2.2⟩ (by rfl) ?hyb6 ?hrb6
      case hyb6 => intro w hSw; go_simp; try with_reducible rfl
      try simp only [Act.put]
      refine wpAnyT_take (i := 7) (v := ?vb7) rfl (by kernel_rfl) (by kernel_rfl) (by kernel_rfl) (by kernel_rfl) (fun _ _ _ h => h) ⟨⟨KB.out _ HSe.out.2.2, HSe.out.2.1.cells.2.2.1⟩, HSe.out.2.2⟩ (by rfl) ?hyb7 ?hrb7
      case hyb7 => intro w hSw; go_simp; try with_reducible rfl
      try simp only [Act.put]
      refine wpAnyT_take (i := 8) (v := ?vb8) rfl (by kernel_rfl) (by kernel_rfl) (by kernel_rfl) (by kernel_rfl) (fun _ _ _ h => h) ⟨⟨KB.out _ HSe.out.2.2, HSe.out.2.1.cells.2.2.1⟩, HSe.out.2.2⟩ (by rfl) ?hyb8 ?hrb8
      case hyb8 => intro w hSw; go_simp; try with_reducible rfl
      try simp only [Act.put]
      refine wpAnyT_take (i := 9) (v := ?vb9) rfl (by kernel_rfl) (by kernel_rfl) (by kernel_rfl) (by kernel_rfl) (fun _ _ _ h => h) ⟨⟨KB.out _ HSe.out.2.2, HSe.out.2.1.cells.2.2.1⟩, HSe.out.2.2⟩ (by rfl) ?hyb9 ?hrb9
      case hyb9 => intro w hSw; go_simp; try with_reducible rfl
      try simp only [Act.put]
      refine wpAnyT_one (i := 10) (by kernel_rfl) rfl (fun K hK => ?_)
      go_simp
      go_at_call 41
      refine (KS.out _ HSe.out).mono ?_
      rintro e w10 ⟨rfl, hS10⟩
      try go_wp2_with fail
      refine hK.out _ _ (fun _ => ⟨⟨KB.out _ hS10.2.2, hS10.2.1.cells.2.2.1⟩, hS10.2.2⟩) ?_
      clear hK K
      try simp only [Act.put, List.setIfInBounds_toArray, List.set_cons_zero, List.set_cons_succ]
      refine wpAnyT_take (i := 11) (v := ?vb11) rfl (by kernel_rfl) (by kernel_rfl) (by kernel_rfl) (by kernel_rfl) (fun _ _ _ h => h) ⟨⟨KB.out _ hS10.2.2, hS10.2.1.cells.2.2.1⟩, hS10.2.2⟩ (by rfl) ?hyb11 ?hrb11
      case hyb11 => intro w hSw; go_simp; try with_reducible rfl
      try simp only [Act.put, List.setIfInBounds_toArray]
      refine wpAnyT_take (i := 12) (v := ?vb12) rfl (by kernel_rfl) (by kernel_rfl) (by kernel_rfl) (by kernel_rfl) (fun _ _ _ h => h) ⟨⟨KB.out _ hS10.2.2, hS10.2.1.cells.2.2.1⟩, hS10.2.2⟩ (by rfl) ?hyb12 ?hrb12
      case hyb12 => intro w hSw; go_simp; try with_reducible rfl
      try simp only [Act.put]
      refine wpAnyT_one (i := 13) (by kernel_rfl) rfl (fun K hK => ?_)
      go_simp
      refine hK.out _ _ (fun _ => ⟨⟨KB.out _ (hS10.next ((Below.refl _ _).alloc (Nat.le_refl _) _)).2.2, (hS10.next ((Below.refl _ _).alloc (Nat.le_refl _) _)).2.1.cells.2.2.1⟩, (hS10.next ((Below.refl _ _).alloc (Nat.le_refl _) _)).2.2⟩) ?_
      clear hK K
      try simp only [Act.put, List.setIfInBounds_toArray, List.set_cons_zero, List.set_cons_succ]
      refine wpAnyT_one (i := 14) (by kernel_rfl) rfl (fun K hK => ?_)
      refine step_append_one (by rfl) (.tmp 66) (.tmp 78) (by rfl) w4.heap.size (.slice (some ⟨g6, 0, none⟩) L1.length c6) L1 _ _ (by rfl) hS10.1 (by rfl) hl1 (by exact hS10.2.2.size) ?_
      intro v' w7 ho7 hg7
      have hmk : ((((⟨#[66, 79, 76, 76, 65, 82, 68, 49, 32]⟩ : ByteArray) ++ ⟨n.toArray⟩) ++ ⟨#[58]⟩) ++ ⟨V0.toArray⟩) = ⟨(Sg.mark n V0).toArray⟩ := by
        simp only [Com.mk_append]
        rfl
      rw [hmk] at ho7
      obtain ⟨g7, c7, rfl, q1, q2, hU7, hS7⟩ := hS10.more (a := Sg.auth) hp4 ho7 hg7
      refine hK.out _ _ (fun _ => ⟨⟨KB.out _ hU7, q1⟩, hU7⟩) ?_
      clear hK K
      try simp only [Act.put, List.setIfInBounds_toArray]
      refine wpAnyT_take (i := 15) (v := ?vb15) rfl (by kernel_rfl) (by kernel_rfl) (by kernel_rfl) (by kernel_rfl) (fun _ _ _ h => h) ⟨⟨KB.out _ hU7, q1⟩, hU7⟩ (by rfl) ?hyb15 ?hrb15
      case hyb15 => intro w hSw; go_simp; try with_reducible rfl
      try simp only [Act.put]
      refine wpAnyT_one (i := 16) (by kernel_rfl) rfl (fun K hK => ?_)
      go_simp
      refine hK.out _ _ (fun h => absurd rfl h) ?_
      clear hK K
      refine wpAnyT_done (by kernel_rfl) ?_ _
      obtain ⟨W7, hW7⟩ : ∃ W, W = w7.setCell ⟨p, 2, none⟩ (.slice (some ⟨g7, 0, none⟩) (L1.length + 1) c7) := ⟨_, rfl⟩
      rw [← hW7] at hS7 ⊢
      clear hW7 ho7 hg7 q1 q2 hU7 hS10 hS6 HSe KB KS s1 s2 s3
      have hLM : (L1 ++ [(Sg.auth, Sg.mark n V0)]).length = L1.length + 1 := by rw [List.length_append]; rfl
      rw [hLM] at hS7
      obtain ⟨y0, y1, y2, y3, -, -, -, -⟩ := hS7.2.1.cells
      have hQr := HQ4.out.below hS7.2.2
      obtain ⟨e0, e1, e2, e3, f0, f1, f2, f3⟩ := hQr.cells
      go_wp2_with fail
      have hR : Sg.others fs ++ Sg.two date n (Sg.sigOf x s date) = L1 ++ [(Sg.auth, Sg.mark n V0)] := by
        rw [HL1.out, HL0.out, HI0.out, HV0.out, List.append_assoc]
        rfl
      refine bodyPost_ret (Rq.run6 (hQr.put (.string ⟨m.toArray⟩) (.string ⟨t.toArray⟩) (.slice (some ⟨g7, 0, none⟩) (L1.length + 1) c7) (.slice ab bd.length cb)) rfl rfl rfl) rfl ⟨⟨some ⟨g7, 0, none⟩, c7, ?_, ?_⟩, ?_⟩
      · rw [hR, hLM]; rfl
      · rw [hR]
        obtain ⟨aF, cF, hv, hc, hFs⟩ := fs_of_own (own_st4 hS7.1 HZ.out (.string ⟨m.toArray⟩) (.string ⟨t.toArray⟩) (.slice (some ⟨g7, 0, none⟩) (L1.length + 1) c7) (.slice ab bd.length cb))
        simp only [Value.slice.injEq] at hv
        obtain ⟨rfl, -, rfl⟩ := hv
        exact hFs
      · exact below_four' (HB4'.out.trans (hS7.2.2.mono (by have := HZ.out; omega))) (by omega) _ _ _ _
end Go.Proofs.YtidflagmdabfaaaGreatDoor.RsV
namespace Go.Proofs.YtidflagmdabfaaaGreatDoor.RsY
open Go.RowKit Go.Proofs.YtidflagmdabfaaaGreatDoor Go.Proofs.YtidflagmdabfaaaGreatDoor.HtW Go.Proofs.YtidflagmdabfaaaGreatDoor.HtC Go.Proofs.YtidflagmdabfaaaGreatDoor.SgB Go.Proofs.YtidflagmdabfaaaGreatDoor.SgC

/-- what the document's Sign gives -/
def RPost (m t bd : List UInt8) (ab : Option Addr) (cb : Nat) (w' : World) (e : Ending) : Sg.Ans (List Sg.Fld) → Prop
  | .no er => e = .returned (.tuple #[noReq, .int .i64 er.num])
  | .ok fs => ∃ a2 c2, e = .returned (.tuple #[.agg #[.string ⟨m.toArray⟩, .string ⟨t.toArray⟩, .slice a2 fs.length c2, .slice ab bd.length cb], .int .i64 0]) ∧ Fs w' a2 fs
theorem rsign (m t bd : List UInt8) (fs : List Sg.Fld) (n s : List UInt8) {ab af : Option Addr} (cb cf : Nat) (date : Int) (w : World) (hb : Bs w ab bd cb) (hf : Fs w af fs) (ht : t.length ≤ 16777215) (hm : m.length ≤ 16777216) (hbl : bd.length ≤ 140737488350000) (h0 : -9223372036854775808 ≤ date) (h1 : date ≤ 9223372036854775807) (hnl : n.length ≤ 16777216) (hsl : s.length ≤ 140737488340000) (hfl : fs.length ≤ 4294967296) :
    Calls Tryz.prog 38 #[.agg #[.string ⟨m.toArray⟩, .string ⟨t.toArray⟩, .slice af fs.length cf, .slice ab bd.length cb], .agg #[.string ⟨n.toArray⟩, .string ⟨s.toArray⟩], .int .i64 date] w fun e w' => RPost m t bd ab cb w' e (Sg.sign m t bd fs n s date) ∧ Below w.heap.size w w' := by
  cases hx : Sg.text m t bd date with
  | no er =>
    have hs : Sg.sign m t bd fs n s date = .no er := by unfold Sg.sign; rw [hx]
    rw [hs]
    exact RsU.rsign_no m t bd fs n s cb cf date w hb ht hm hbl h0 h1 hx
  | ok x =>
    have hxl := SgK.text_len hx ht hm h0 h1
    by_cases hg : Sg.goodName n = true
    · have hs : Sg.sign m t bd fs n s date = .ok (Sg.others fs ++ Sg.two date n (Sg.sigOf x s date)) := by unfold Sg.sign; rw [hx]; simp only; rw [if_pos hg]
      have hd0 : 0 ≤ date := by
        unfold Sg.text at hx
        cases hP : Up.parse t with
        | none => rw [hP] at hx; cases hx
        | some u =>
          rw [hP] at hx
          simp only at hx
          split at hx
          · rename_i hgd
            simp only [Sg.goodDate, Bool.and_eq_true, decide_eq_true_eq] at hgd
            exact hgd.1
          · cases hx
      rw [hs]
      exact RsV.rsign_yes m t bd fs n s cb cf date w hb hf ht hm hbl hd0 h1 hx hnl hsl hfl (by omega) hg
    · have hs : Sg.sign m t bd fs n s date = .no .req := by unfold Sg.sign; rw [hx]; simp only; rw [if_neg hg]
      rw [hs]
      exact RsU.rsign_req m t bd fs n s cb cf date w hb ht hm hbl h0 h1 hx hnl (by simpa using hg)
end Go.Proofs.YtidflagmdabfaaaGreatDoor.RsY
