/-
  The walk of package sig's Check: the two ways out ahead of the keys. A drawn region by hand (HeldT): two operations that may come up next. The walk of package sig's Check: among the keys. (Under way: does not build yet.)
-/
import Derived.Test.YtidflagmdabfaaaGreatDoorSg17
import Derived.Test.YtidflagmdabfaaaGreatDoorSg18
import Derived.Test.YtidflagmdabfaaaGreatDoorSg20
namespace Go.Proofs.YtidflagmdabfaaaGreatDoor.SgG
open Go.RowKit Go.Proofs.YtidflagmdabfaaaGreatDoor Go.Proofs.YtidflagmdabfaaaGreatDoor.HtW Go.Proofs.YtidflagmdabfaaaGreatDoor.HtC Go.Proofs.YtidflagmdabfaaaGreatDoor.Ato Go.Proofs.YtidflagmdabfaaaGreatDoor.SgA Go.Proofs.YtidflagmdabfaaaGreatDoor.SgB Go.Proofs.YtidflagmdabfaaaGreatDoor.SgF

set_option maxHeartbeats 4000000 in
set_option maxRecDepth 100000 in
theorem check_uri (m t bd : List UInt8) (fs ks : List Sg.Fld) {ab af ak : Option Addr} (cb cf ck : Nat) (now : Int) (w : World) {aU aR aD aK : Addr} (hE : Env w aU aR aD aK) (ht : t.length ≤ 16777215) (hP : Up.parse t = none) :
    Calls Tryz.prog 39 #[.agg #[.string ⟨m.toArray⟩, .string ⟨t.toArray⟩, .slice af fs.length cf, .slice ab bd.length cb], .slice ak ks.length ck, .int .i64 now] w fun e w' => e = .returned (tv aU aR aD aK (Sg.check m t bd fs ks now)) ∧ Below w.heap.size w w' := by
  have E := Lib.hid hE; clear hE
  have hA := (Below.refl w.heap.size w).alloc (Nat.le_refl _) (.cells #[.string ⟨m.toArray⟩, .string ⟨t.toArray⟩, .slice af fs.length cf, .slice ab bd.length cb] 25)
  have hR0 := heap_alloc_new w (.cells #[.string ⟨m.toArray⟩, .string ⟨t.toArray⟩, .slice af fs.length cf, .slice ab bd.length cb] 25)
  have hts : (ByteArray.mk t.toArray).size ≤ 16777216 := by rw [Com.size_mk]; omega
  have HR := Lib.hid (show Sg.check m t bd fs ks now = .no .uri by unfold Sg.check; rw [hP])
  go_enter Tryz.func39, Tryz.ntmps39
  go_wp2_with (go_at_call 43; refine (UriG.parseN ⟨t.toArray⟩ _ (E.out.uri.below hA) (E.out.mx.below hA) hts hP).mono ?_; rintro e w1 ⟨rfl, hb1⟩)
  go_ret2
  refine ⟨by rw [HR.out]; rfl, ?_⟩
  exact (hA.trans (hb1.mono hA.size)).alloc (Nat.le_trans hA.size hb1.size) _

set_option maxHeartbeats 4000000 in
set_option maxRecDepth 100000 in
theorem check_req (m t bd : List UInt8) (fs ks : List Sg.Fld) {ab af ak : Option Addr} (cb cf ck : Nat) (now : Int) (w : World) {aU aR aD aK : Addr} (hE : Env w aU aR aD aK) (hf : Fs w af fs) (hN : Ne w) (hfl : fs.length ≤ 4294967296) (hv : ∀ q ∈ fs, q.2.length ≤ 16777216) (ht : t.length ≤ 16777215) {u : Up.Uri} (hP : Up.parse t = some u) (hc : Sg.claimed fs = none) :
    Calls Tryz.prog 39 #[.agg #[.string ⟨m.toArray⟩, .string ⟨t.toArray⟩, .slice af fs.length cf, .slice ab bd.length cb], .slice ak ks.length ck, .int .i64 now] w fun e w' => e = .returned (tv aU aR aD aK (Sg.check m t bd fs ks now)) ∧ Below w.heap.size w w' := by
  have E := Lib.hid hE; clear hE
  have HF := Lib.hid hf; clear hf
  have HN := Lib.hid hN; clear hN
  have hA := (Below.refl w.heap.size w).alloc (Nat.le_refl _) (.cells #[.string ⟨m.toArray⟩, .string ⟨t.toArray⟩, .slice af fs.length cf, .slice ab bd.length cb] 25)
  have hR0 : Rq w.heap.size (w.alloc (.cells #[.string ⟨m.toArray⟩, .string ⟨t.toArray⟩, .slice af fs.length cf, .slice ab bd.length cb] 25)) _ _ _ _ := heap_alloc_new w (.cells #[.string ⟨m.toArray⟩, .string ⟨t.toArray⟩, .slice af fs.length cf, .slice ab bd.length cb] 25)
  have hts : (ByteArray.mk t.toArray).size ≤ 16777216 := by rw [Com.size_mk]; omega
  have HR := Lib.hid (show Sg.check m t bd fs ks now = .no .req by unfold Sg.check; rw [hP, hc])
  have HC := Lib.hid hc; clear hc
  go_enter Tryz.func39, Tryz.ntmps39
  go_wp2_with (first
    | (go_at_call 78; refine (claimed m t fs bd.length cb cf _ (E.out.below hbB) (HF.out.below hbB) hfl (HN.out.below hbB) hv).mono ?_; rintro e w2 ⟨rfl, hb2⟩; rw [HC.out, show clv none = .tuple #[.agg #[.int .i64 0, .string ⟨#[]⟩, .string ⟨#[]⟩], .bool false] from rfl]; have hbC := hbB.trans (hb2.mono hbB.size); have hbD := hbC.alloc hbC.size (.cells #[.int .i64 0, .string ⟨#[]⟩, .string ⟨#[]⟩] 134); have q1 := (E.out.below hbD).req)
    | (go_at_call 43; refine (UriG.parseS ⟨t.toArray⟩ _ (E.out.uri.below hA) (E.out.mx.below hA) hts hP).mono ?_; rintro e w1 ⟨⟨aq, cq, rfl, hq1, hq2⟩, hb1⟩; have hbA := hA.trans (hb1.mono hA.size); have hbB := hbA.alloc hbA.size (.cells #[.string ⟨u.path.toArray⟩, .slice aq u.query.length cq] 97); obtain ⟨r0, r1, r2, r3, -, -, -, -⟩ := ((hR0.below hb1).below ((Below.refl w1.heap.size w1).alloc (Nat.le_refl _) (.cells #[.string ⟨u.path.toArray⟩, .slice aq u.query.length cq] 97))).cells))
  go_quiet (fail)
  go_wp2_with fail
  go_ret2
  exact ⟨by rw [HR.out]; rfl, below_drewN hbD nq⟩
theorem claimed_some {fs : List Sg.Fld} {n : Nat} {a h : List UInt8} (hv : ∀ q ∈ fs, q.2.length ≤ 16777216) (hc : Sg.claimed fs = some (n, a, h)) : n ≤ 1099511627776 ∧ a.length ≤ 16777216 ∧ h.length = 64 := by
  rw [SgE.claimed_if] at hc
  split at hc
  · rename_i e
    cases hc
    obtain ⟨⟨_, _, _, e5⟩, _, _, _, e9, _⟩ := e
    simp only [Sg.goodDate, Bool.and_eq_true, decide_eq_true_eq] at e5
    refine ⟨by omega, ?_, e9⟩
    exact Nat.le_trans (SgE.cut_len _ _).1 (Nat.le_trans (SgE.trim_len _) (SgE.get_len hv Sg.auth))
  · cases hc
theorem among_at {x name hex : List UInt8} {n : Nat} {now : Int} {ks : List Sg.Fld} {k : Nat} {q : Sg.Fld} (h : ks[k]? = some q) : Sg.among x name hex n now (ks.drop k) = if q.1 = name then (if Sg.sigOf x q.2 n = hex then (if now < n - 100 ∨ n + 100 < now then .no .skew else .ok name) else .no .denied) else Sg.among x name hex n now (ks.drop (k + 1)) := by
  obtain ⟨hk, rfl⟩ := List.getElem?_eq_some_iff.1 h
  rw [List.drop_eq_getElem_cons hk]
  rfl
end Go.Proofs.YtidflagmdabfaaaGreatDoor.SgG
namespace Go.Proofs.YtidflagmdabfaaaGreatDoor.HeldT
open Go
section
variable {P : Program} {ops : Array Oper} {Q : Exit → Act → World → Prop} {md : Region.Mode} {S : World → Prop} {z : Nat}
theorem wpAnyT_two {i j : Nat} {oi oj : Oper} {fuel : Nat} {listed : Array Bool} {a : Act} {w : World} (hr : Region.ready md ops listed = [i, j]) (hi : ops[i]? = some oi) (hj : ops[j]? = some oj)
    (h1 : ∀ K' : Act → World → Prop, Shut (∀ a w, (i ≠ z → S w) → wpAnyT P md ops Q S z fuel (listed.setIfInBounds i true) a w → K' a w) → if Region.wanted oi (yielded ops a.tmps) = true then Oper.wp P oi a w K' Q else K' (a.put oi.dst undef) w)
    (h2 : ∀ K' : Act → World → Prop, Shut (∀ a w, (j ≠ z → S w) → wpAnyT P md ops Q S z fuel (listed.setIfInBounds j true) a w → K' a w) → if Region.wanted oj (yielded ops a.tmps) = true then Oper.wp P oj a w K' Q else K' (a.put oj.dst undef) w) :
    wpAnyT P md ops Q S z (fuel + 1) listed a w := by
  refine ⟨fun h0 => (by rw [hr] at h0; cases h0), fun k hk => ?_⟩
  rw [hr] at hk
  rcases List.mem_cons.1 hk with rfl | hk
  · exact wpOp_step hi (fun K' hK => h1 K' (fun a w hS hW => hK a w ⟨hS, hW⟩))
  · obtain rfl : k = j := List.mem_singleton.1 hk
    exact wpOp_step hj (fun K' hK => h2 K' (fun a w hS hW => hK a w ⟨hS, hW⟩))
theorem wpAnyT_first0 {i : Nat} {oi : Oper} {v : Value} (hi : ops[i]? = some oi) (hsel : ∀ (j : Nat) (o : Oper) cs b, ops[j]? = some o → o.op ≠ .select cs b)
    (hQ : ∀ c a w, Q (.panic c) (a.put oi.dst v) w → Q (.panic c) a w) (hz : ops[z]? = none) :
    ∀ (fuel : Nat) (listed : Array Bool) (a : Act) (w : World),
      (∀ j oj, ops[j]? = some oj → j ≠ i → listed.getD j true = false → (∀ e ∈ oj.after, Region.binds md e = true → e.on ≠ i) → oi.apart ops oj = true) →
      i ∈ Region.ready md ops listed → YieldsIf P ops S oi v a → S w →
      wpAnyT P md ops Q S z fuel (listed.setIfInBounds i true) (a.put oi.dst v) w → wpAnyT P md ops Q S z (fuel + 1) listed a w := by
  intro fuel
  induction fuel with
  | zero =>
    intro listed a w _ hr hy hS H
    refine ⟨fun h => (by rw [h] at hr; cases hr), fun j hj => ?_⟩
    by_cases hji : j = i
    · subst hji; exact hy.wpOp hi hS ⟨fun _ => hS, H⟩
    · have := ready_mono hj hji
      rw [H.1] at this
      cases this
  | succ fuel ih =>
    intro listed a w hfree hr hy hS H
    refine ⟨fun h => (by rw [h] at hr; cases hr), fun j hj => ?_⟩
    by_cases hji : j = i
    · subst hji; exact hy.wpOp hi hS ⟨fun _ => hS, H⟩
    · have h1 := H.2 j (ready_mono hj hji)
      obtain ⟨hjun, oj, hoj, hall⟩ := mem_ready.1 hj
      have hnot : ∀ e ∈ oj.after, Region.binds md e = true → e.on ≠ i := fun e he hb heq => by
        have h1 := hall e he hb
        have h0 := (mem_ready.1 hr).1
        rw [heq] at h1
        rcases Nat.lt_or_ge i listed.size with h' | h'
        · simp [h'] at h0 h1; rw [h0] at h1; cases h1
        · simp [Array.getElem?_eq_none h'] at h1
      have hjz : j ≠ z := by
        rintro rfl
        rw [hz] at hoj
        cases hoj
      have h2 := wpOp_putIf hoj (hfree j oj hoj hji hjun hnot) (fun cs b => hsel i oi cs b hi) (fun cs b => hsel j oj cs b hoj) hQ hy h1
      have hfree' : ∀ k ok, ops[k]? = some ok → k ≠ i → (listed.setIfInBounds j true).getD k true = false →
          (∀ e ∈ ok.after, Region.binds md e = true → e.on ≠ i) → oi.apart ops ok = true := fun k ok hk hki hun hno => by
        refine hfree k ok hk hki ?_ hno
        by_cases hjk : j = k
        · subst hjk; exact hjun
        · rw [getD_set_ne true hjk] at hun; exact hun
      refine wpOp_mono (fun a' w' h3 => ⟨h3.2.1, ih (listed.setIfInBounds j true) a' w' hfree' (ready_mono hr (Ne.symm hji)) h3.1 (h3.2.1 hjz) ?_⟩) h2
      rw [Array.setIfInBounds_comm _ _ hji]
      exact h3.2.2

/-- S holds behind every operation (z is none of them) -/
theorem wpAnyT_take0 {i : Nat} {oi : Oper} {v : Value} {fuel : Nat} {listed : Array Bool} {a : Act} {w : World} (hi : ops[i]? = some oi)
    (hs : Region.noSelect ops = true) (hf : Region.free md ops listed i = true) (hr : (Region.ready md ops listed).contains i = true) (hz : ops[z]? = none)
    (hQ : ∀ c a w, Q (.panic c) (a.put oi.dst v) w → Q (.panic c) a w) (hS : S w) (hw : Region.wanted oi (yielded ops a.tmps) = true) (hy : ∀ w, S w → (execOp a.eval oi).run P w = .ok (.value v) w)
    (h : wpAnyT P md ops Q S z fuel (listed.setIfInBounds i true) (a.put oi.dst v) w) : wpAnyT P md ops Q S z (fuel + 1) listed a w :=
  wpAnyT_first0 hi (Region.noSelect_spec hs) hQ hz fuel listed a w (Region.free_spec hi hf) (by simpa using hr) (.inl ⟨hw, hy⟩) hS h

end
end Go.Proofs.YtidflagmdabfaaaGreatDoor.HeldT
namespace Go.Proofs.YtidflagmdabfaaaGreatDoor.SgH
open Go.RowKit Go.Proofs.YtidflagmdabfaaaGreatDoor Go.Proofs.YtidflagmdabfaaaGreatDoor.HtW Go.Proofs.YtidflagmdabfaaaGreatDoor.HtC Go.Proofs.YtidflagmdabfaaaGreatDoor.Ato Go.Proofs.YtidflagmdabfaaaGreatDoor.SgA Go.Proofs.YtidflagmdabfaaaGreatDoor.SgB Go.Proofs.YtidflagmdabfaaaGreatDoor.SgF Go.Proofs.YtidflagmdabfaaaGreatDoor.SgG Go.Proofs.YtidflagmdabfaaaGreatDoor.HeldT

theorem sig_len (x s : List UInt8) (d : Int) : (Sg.sigOf x s d).length = 64 := by
  unfold Sg.sigOf
  rw [Nm.hex_length, Sha.mac_length]
set_option maxHeartbeats 4000000 in
set_option maxRecDepth 100000 in
theorem check_keys (m t bd : List UInt8) (fs ks : List Sg.Fld) {ab af ak : Option Addr} (cb cf ck : Nat) (now : Int) (w : World) {aU aR aD aK : Addr} (hE : Env w aU aR aD aK) (hb : Bs w ab bd cb) (hf : Fs w af fs) (hk : Fs w ak ks) (hN : Ne w) (hfl : fs.length ≤ 4294967296) (hkl : ks.length ≤ 4294967296) (hkv : ∀ q ∈ ks, q.2.length ≤ 16777216) (hv : ∀ q ∈ fs, q.2.length ≤ 16777216) (ht : t.length ≤ 16777215) (hm : m.length ≤ 16777216) (hbl : bd.length ≤ 140737488350000) (_n0 : -9223372036854775808 ≤ now) (_n1 : now ≤ 9223372036854775807) {u : Up.Uri} (hP : Up.parse t = some u) {n : Nat} {a h : List UInt8} (hc : Sg.claimed fs = some (n, a, h)) :
    Calls Tryz.prog 39 #[.agg #[.string ⟨m.toArray⟩, .string ⟨t.toArray⟩, .slice af fs.length cf, .slice ab bd.length cb], .slice ak ks.length ck, .int .i64 now] w fun e w' => e = .returned (tv aU aR aD aK (Sg.check m t bd fs ks now)) ∧ Below w.heap.size w w' := by
  obtain ⟨hn, hal, hhl0⟩ := claimed_some hv hc
  have hhl : h.length ≤ 64 := Nat.le_of_eq hhl0
  clear hhl0
  have E := Lib.hid hE; clear hE
  have HB := Lib.hid hb; clear hb
  have HF := Lib.hid hf; clear hf
  have HK := Lib.hid hk; clear hk
  have HN := Lib.hid hN; clear hN
  have hA := (Below.refl w.heap.size w).alloc (Nat.le_refl _) (.cells #[.string ⟨m.toArray⟩, .string ⟨t.toArray⟩, .slice af fs.length cf, .slice ab bd.length cb] 25)
  have hR0 : Rq w.heap.size (w.alloc (.cells #[.string ⟨m.toArray⟩, .string ⟨t.toArray⟩, .slice af fs.length cf, .slice ab bd.length cb] 25)) _ _ _ _ := heap_alloc_new w (.cells #[.string ⟨m.toArray⟩, .string ⟨t.toArray⟩, .slice af fs.length cf, .slice ab bd.length cb] 25)
  have hts : (ByteArray.mk t.toArray).size ≤ 16777216 := by rw [Com.size_mk]; omega
  have HR := Lib.hid (show Sg.check m t bd fs ks now = Sg.among (Sg.lines m u bd n) a h n now ks by unfold Sg.check; rw [hP, hc])
  have HTx := Lib.hid (show Sg.text m t bd n = .ok (Sg.lines m u bd n) by
    unfold Sg.text
    rw [hP]
    simp only
    rw [if_pos]
    simp only [Sg.goodDate, Bool.and_eq_true, decide_eq_true_eq]
    omega)
  have hLl := lines_len (bd := bd) (date := (n : Int)) hP (by omega) hm (by omega) (by omega)
  have HC := Lib.hid hc; clear hc
  go_enter Tryz.func39, Tryz.ntmps39
  go_wp2_with (first
    | (go_at_call 35; refine (text m t bd (.slice af fs.length cf) cb (n : Int) _ (E.out.below hbD) (HB.out.below hbD) ht hm hbl (by omega) (by omega)).mono ?_; rintro e w3 ⟨rfl, hb3⟩; rw [HTx.out, show tv aU aR aD aK (.ok (Sg.lines m u bd n)) = .tuple #[.string ⟨(Sg.lines m u bd n).toArray⟩, .nilIface] from rfl])
    | (go_at_call 78; refine (claimed m t fs bd.length cb cf _ (E.out.below hbB) (HF.out.below hbB) hfl (HN.out.below hbB) hv).mono ?_; rintro e w2 ⟨rfl, hb2⟩; rw [HC.out, show clv (some (n, a, h)) = .tuple #[.agg #[.int .i64 (n : Int), .string ⟨a.toArray⟩, .string ⟨h.toArray⟩], .bool true] from rfl]; have hbC := hbB.trans (hb2.mono hbB.size); have hbD := hbC.alloc hbC.size (.cells #[.int .i64 (n : Int), .string ⟨a.toArray⟩, .string ⟨h.toArray⟩] 134); have hqC := (Below.heap_alloc w2 (.cells #[.int .i64 (n : Int), .string ⟨a.toArray⟩, .string ⟨h.toArray⟩] 134) w.heap.size (by have := hb2.size; simp at this; have := hb1.size; simp at this; omega)).trans ((hb2.block w.heap.size (by have := hb1.size; simp at this; simp; omega)).trans ((Below.heap_alloc w1 (.cells #[.string ⟨u.path.toArray⟩, .slice aq u.query.length cq] 97) w.heap.size (by have := hb1.size; simp at this; omega)).trans (hR0.below hb1))); obtain ⟨r0, r1, r2, r3, -, -, -, -⟩ := (show Rq w.heap.size (w2.alloc _) _ _ _ _ from hqC).cells)
    | (go_at_call 43; refine (UriG.parseS ⟨t.toArray⟩ _ (E.out.uri.below hA) (E.out.mx.below hA) hts hP).mono ?_; rintro e w1 ⟨⟨aq, cq, rfl, hq1, hq2⟩, hb1⟩; have hbA := hA.trans (hb1.mono hA.size); have hbB := hbA.alloc hbA.size (.cells #[.string ⟨u.path.toArray⟩, .slice aq u.query.length cq] 97); obtain ⟨r0, r1, r2, r3, -, -, -, -⟩ := ((hR0.below hb1).below ((Below.refl w1.heap.size w1).alloc (Nat.le_refl _) (.cells #[.string ⟨u.path.toArray⟩, .slice aq u.query.length cq] 97))).cells))
  have hbE : Below w.heap.size w w3 := hbD.trans (hb3.mono hbD.size)
  have HQ := Lib.hid (show Cq w2.heap.size w3 (.int .i64 (n : Int)) (.string ⟨a.toArray⟩) (.string ⟨h.toArray⟩) from (hb3.block w2.heap.size (by simp)).trans (heap_alloc_new w2 _))
  have HE3 := Lib.hid (E.out.below hbE)
  have HK3 := Lib.hid (show Fs w3 ak ks from HK.out.below hbE)
  have HBE := Lib.hid hbE
  obtain ⟨L, hL⟩ : ∃ L, L = Sg.lines m u bd n := ⟨_, rfl⟩
  rw [← hL] at hLl HR ⊢
  clear hL HTx hbA hbB hbC hbD hqC hb1 hb2 hb3 hbE hA hR0 hq2
  go_loopg [45] ks.length (fun g v45 wr => ∃ k : Nat, k + g = ks.length ∧ v45 = .int .i64 k ∧ Hid (Sg.check m t bd fs ks now = Sg.among L a h n now (ks.drop k)) ∧ Hid (Below w3.heap.size w3 wr))
  case atStart => exact ⟨0, by omega, rfl, HR, Lib.hid (Below.refl _ _)⟩
  case round =>
    obtain ⟨k, hkg, rfl, HM, HU⟩ := hrel
    have HG := Lib.hid hkg
    have hqr := HQ.out.below HU.out
    obtain ⟨y0, y1, y2, -, -, -⟩ := hqr.cells
    by_cases hlt : k < ks.length
    · obtain ⟨q, hq⟩ : ∃ q, ks[k]? = some q := ⟨_, List.getElem?_eq_getElem hlt⟩
      obtain ⟨kn, kv⟩ := q
      obtain ⟨b, o, rfl, hbl', c0, c1⟩ := Fs.at (HK3.out.below HU.out) hq
      simp only at c0 c1
      have HAt := Lib.hid (among_at (x := L) (name := a) (hex := h) (n := n) (now := now) hq)
      have hql := (Array.getElem?_eq_some_iff.1 hqr).1
      have z0 : (0 : Int) ≤ (k : Int) := by omega
      have z1 : (k : Int) < (ks.length : Int) := by omega
      clear hkg
      by_cases e1 : kn = a
      · subst e1
        rw [if_pos rfl] at HAt
        obtain ⟨wk, hwk⟩ : ∃ wk, wk = wr.alloc (.cells #[.string ⟨kn.toArray⟩, .string ⟨kv.toArray⟩] 71) := ⟨_, rfl⟩
        have hbk : Below wr.heap.size wr wk := by rw [hwk]; exact (Below.refl _ _).alloc (Nat.le_refl _) _
        have hk0 : wk.heap[wr.heap.size]? = some (.cells #[.string ⟨kn.toArray⟩, .string ⟨kv.toArray⟩] 71 (0, 0)) := by rw [hwk]; exact heap_alloc_new _ _
        have k1 : wk.cell? ⟨wr.heap.size, 1, none⟩ = some (.string ⟨kv.toArray⟩) := Lib.cell_of_heap (j := 1) hk0
        obtain ⟨u0, u1, u2, -, -, -⟩ := (hqr.below hbk).cells
        have HUK := Lib.hid (show Below w3.heap.size w3 wk from HU.out.trans (hbk.mono HU.out.size))
        have hkl2 := hkv _ (List.mem_of_getElem? hq)
        simp only at hkl2
        obtain ⟨V, hV⟩ : ∃ V, V = Sg.sigOf L kv (n : Int) := ⟨_, rfl⟩
        have hVl : V.length ≤ 64 := by rw [hV, SgH.sig_len]; exact Nat.le_refl _
        simp only at HAt
        rw [← hV] at HAt
        have HV := Lib.hid hV; clear hV
        have hsV : (ByteArray.mk V.toArray).size = V.length := Com.size_mk _
        have hsh : (ByteArray.mk h.toArray).size = h.length := Com.size_mk _
        have KN := Lib.hid (show ∀ W W' : World, (((W.cell? ⟨wr.heap.size, 1, none⟩ = some (.string ⟨kv.toArray⟩) ∧ W.cell? ⟨w2.heap.size, 0, none⟩ = some (.int .i64 (n : Int))) ∧ W.cell? ⟨w2.heap.size, 2, none⟩ = some (.string ⟨h.toArray⟩)) ∧ Below wk.heap.size wk W) → Below W.heap.size W W' → (((W'.cell? ⟨wr.heap.size, 1, none⟩ = some (.string ⟨kv.toArray⟩) ∧ W'.cell? ⟨w2.heap.size, 0, none⟩ = some (.int .i64 (n : Int))) ∧ W'.cell? ⟨w2.heap.size, 2, none⟩ = some (.string ⟨h.toArray⟩)) ∧ Below wk.heap.size wk W') from fun W W' hW hb => ⟨⟨⟨(hb.cell (World.block_lt_of_cell? W _ hW.1.1.1)).trans hW.1.1.1, (hb.cell (World.block_lt_of_cell? W _ hW.1.1.2)).trans hW.1.1.2⟩, (hb.cell (World.block_lt_of_cell? W _ hW.1.2)).trans hW.1.2⟩, hW.2.trans (hb.mono hW.2.size)⟩)
        have HTB := Lib.hid ((HE3.out.below HUK.out).tab)
        have KS := Lib.hid (show ∀ W : World, (((W.cell? ⟨wr.heap.size, 1, none⟩ = some (.string ⟨kv.toArray⟩) ∧ W.cell? ⟨w2.heap.size, 0, none⟩ = some (.int .i64 (n : Int))) ∧ W.cell? ⟨w2.heap.size, 2, none⟩ = some (.string ⟨h.toArray⟩)) ∧ Below wk.heap.size wk W) → Calls Tryz.prog 74 #[.string ⟨L.toArray⟩, .string ⟨kv.toArray⟩, .int .i64 (n : Int)] W fun e w' => e = .returned (.string ⟨V.toArray⟩) ∧ Below W.heap.size W w' from fun W hW => by
          refine (signature L kv (n : Int) W (by omega) (by omega) (by omega) (by omega) (HTB.out.below hW.2)).mono ?_
          rintro e w9 ⟨rfl, hb9⟩
          exact ⟨by rw [HV.out], hb9⟩)
        obtain ⟨qe, hqe⟩ : ∃ qe : Bool, (V == h) = qe := ⟨_, rfl⟩
        have HQ2 := Lib.hid (show qe = true → Sg.among L kn h n now (ks.drop k) = if now < n - 100 ∨ n + 100 < now then .no .skew else .ok kn from fun e => by rw [HAt, if_pos (by rw [← hqe] at e; simpa using e)])
        have HQ3 := Lib.hid (show qe = false → Sg.among L kn h n now (ks.drop k) = .no .denied from fun e => by rw [HAt, if_neg (by rw [← hqe] at e; simpa using e)])
        have HQE := Lib.hid hqe
        clear HAt hq hk0 hqe
        have kc := fun w s => Lib.run_convert_string_bytes (P := Tryz.prog) w 9 23 5 s Tryz.underlying9 Tryz.underlying23 Tryz.underlying5
        go_wp2_with fail
        rw [← hwk]
        refine wp_region_T (fun W => ((W.cell? ⟨wr.heap.size, 1, none⟩ = some (.string ⟨kv.toArray⟩) ∧ W.cell? ⟨w2.heap.size, 0, none⟩ = some (.int .i64 (n : Int))) ∧ W.cell? ⟨w2.heap.size, 2, none⟩ = some (.string ⟨h.toArray⟩)) ∧ Below wk.heap.size wk W) 99 (by kernel_rfl) ?_
        have HS0 := Lib.hid (show (fun W : World => ((W.cell? ⟨wr.heap.size, 1, none⟩ = some (.string ⟨kv.toArray⟩) ∧ W.cell? ⟨w2.heap.size, 0, none⟩ = some (.int .i64 (n : Int))) ∧ W.cell? ⟨w2.heap.size, 2, none⟩ = some (.string ⟨h.toArray⟩)) ∧ Below wk.heap.size wk W) wk.drew from ⟨⟨⟨k1, u0⟩, u2⟩, (Below.refl _ _).drew⟩)
        clear hwk
        refine wpAnyT_take0 (i := 0) (v := ?v0z) rfl (by kernel_rfl) (by kernel_rfl) (by kernel_rfl) rfl (fun _ _ _ h => h) HS0.out (by rfl) ?hy0z ?hr0z
        case hy0z => intro w hSw; go_simp; try with_reducible rfl
        try simp only [Act.put, List.setIfInBounds_toArray]
        refine wpAnyT_take0 (i := 1) (v := ?v1z) rfl (by kernel_rfl) (by kernel_rfl) (by kernel_rfl) rfl (fun _ _ _ h => h) HS0.out (by rfl) ?hy1z ?hr1z
        case hy1z => intro w hSw; go_simp; try with_reducible rfl
        try simp only [Act.put]
        refine wpAnyT_take0 (i := 2) (v := ?v2z) rfl (by kernel_rfl) (by kernel_rfl) (by kernel_rfl) rfl (fun _ _ _ h => h) HS0.out (by rfl) ?hy2z ?hr2z
        case hy2z => intro w hSw; go_simp; try with_reducible rfl
        try simp only [Act.put]
        refine wpAnyT_take0 (i := 3) (v := ?v3z) rfl (by kernel_rfl) (by kernel_rfl) (by kernel_rfl) rfl (fun _ _ _ h => h) HS0.out (by rfl) ?hy3z ?hr3z
        case hy3z => intro w hSw; go_simp; try with_reducible rfl
        try simp only [Act.put]
        refine wpAnyT_take0 (i := 4) (v := ?v4z) rfl (by kernel_rfl) (by kernel_rfl) (by kernel_rfl) rfl (fun _ _ _ h => h) HS0.out (by rfl) ?hy4z ?hr4z
        case hy4z => intro w hSw; go_simp; try with_reducible rfl
        try simp only [Act.put]
        refine wpAnyT_take0 (i := 7) (v := ?v7z) rfl (by kernel_rfl) (by kernel_rfl) (by kernel_rfl) rfl (fun _ _ _ h => h) HS0.out (by rfl) ?hy7z ?hr7z
        case hy7z => intro w hSw; go_simp; try with_reducible rfl
        try simp only [Act.put]
        refine wpAnyT_take0 (i := 8) (v := ?v8z) rfl (by kernel_rfl) (by kernel_rfl) (by kernel_rfl) rfl (fun _ _ _ h => h) HS0.out (by rfl) ?hy8z ?hr8z
        case hy8z => intro w hSw; go_simp; try with_reducible rfl
        try simp only [Act.put]
        refine wpAnyT_two (i := 5) (j := 9) (by kernel_rfl) rfl rfl ?_ ?_
        all_goals intro K hK
        · -- the signature first
          go_simp
          go_at_call 74
          refine (KS.out _ HS0.out).mono ?_
          rintro e w5 ⟨rfl, hb5⟩
          have hS5 := KN.out _ _ HS0.out hb5
          try go_wp2_with fail
          refine hK.out _ _ (fun _ => hS5) ?_
          clear hK K
          try simp only [Act.put, List.setIfInBounds_toArray, List.set_cons_zero, List.set_cons_succ]
          refine wpAnyT_two (i := 6) (j := 9) (by kernel_rfl) rfl rfl ?_ ?_
          all_goals intro K hK
          · -- 6, 9
            go_simp
            have hb6 := Lib.bytesWorld_below w5 5 ⟨V.toArray⟩
            have hB6 := ShaJ.conv_bs w5 V
            have hS6 := KN.out _ _ hS5 hb6
            refine hK.out _ _ (fun _ => hS6) ?_
            clear hK K
            generalize grownCap w5 V.length 0 5 = cc6 at *
            generalize Lib.bytesWorld w5 5 ⟨V.toArray⟩ = ww6 at *
            try simp only [Act.put, List.setIfInBounds_toArray, List.set_cons_zero, List.set_cons_succ]
            refine wpAnyT_one (i := 9) (by kernel_rfl) rfl ?_
            intro K hK
            go_simp
            have hb9 := Lib.bytesWorld_below ww6 5 ⟨h.toArray⟩
            have hB9 := ShaJ.conv_bs ww6 h
            have hS9 := KN.out _ _ hS6 hb9
            refine hK.out _ _ (fun _ => hS9) ?_
            clear hK K
            generalize grownCap ww6 h.length 0 5 = cc9 at *
            generalize Lib.bytesWorld ww6 5 ⟨h.toArray⟩ = ww9 at *
            try simp only [Act.put, List.setIfInBounds_toArray, List.set_cons_zero, List.set_cons_succ]
            refine wpAnyT_one (i := 10) (by kernel_rfl) rfl ?_
            intro K hK
            go_simp
            go_at_call 79
            refine (Hex.sameW V h cc6 cc9 _ (hB6.below hb9) hB9 (by omega)).mono ?_
            rintro e w10 ⟨rfl, hb10⟩
            rw [HQE.out]
            have hS10 := KN.out _ _ hS9 hb10
            try go_wp2_with fail
            refine hK.out _ _ (fun _ => hS10) ?_
            clear hK K
            try simp only [Act.put, List.setIfInBounds_toArray, List.set_cons_zero, List.set_cons_succ]
            refine wpAnyT_one (i := 11) (by kernel_rfl) rfl ?_
            intro K hK
            go_simp
            refine hK.out _ _ (fun _ => hS10) ?_
            clear hK K
            try simp only [Act.put, List.setIfInBounds_toArray, List.set_cons_zero, List.set_cons_succ]
            refine wpAnyT_done (by kernel_rfl) ?_ _
            have HU10 := Lib.hid (show Below w3.heap.size w3 w10 from HUK.out.trans (hS10.2.mono HUK.out.size))
            have hE10 := HE3.out.below HU10.out
            have d1 := hE10.den
            have d2 := hE10.skw
            obtain ⟨v0, v1, v2, -, -, -⟩ := (HQ.out.below HU10.out).cells
            clear hE10 hS10 hb10
            clear HQE
            cases qe
            rotate_left
            · have HR2 := HQ2.out rfl
              by_cases e3 : now < n - 100
              · rw [if_pos (.inl e3)] at HR2
                have HR3 := Lib.hid (HM.out.trans HR2); clear HR2
                go_wp2_with fail
                go_quiet (fail)
                go_wp2_with fail
                go_ret2
                exact ⟨by rw [HR3.out]; rfl, below_drewN (HBE.out.trans (HU10.out.mono HBE.out.size)) nq⟩
              · by_cases e4 : n + 100 < now
                · rw [if_pos (.inr e4)] at HR2
                  have HR3 := Lib.hid (HM.out.trans HR2); clear HR2
                  go_wp2_with fail
                  go_quiet (fail)
                  go_wp2_with fail
                  go_ret2
                  exact ⟨by rw [HR3.out]; rfl, below_drewN (HBE.out.trans (HU10.out.mono HBE.out.size)) nq⟩
                · rw [if_neg (by omega)] at HR2
                  have HR3 := Lib.hid (HM.out.trans HR2); clear HR2
                  go_wp2_with fail
                  go_ret2
                  exact ⟨by rw [HR3.out]; rfl, HBE.out.trans (HU10.out.mono HBE.out.size)⟩
            · have HR3 := Lib.hid (HM.out.trans (HQ3.out rfl))
              go_wp2_with fail
              go_quiet (fail)
              go_wp2_with fail
              go_ret2
              exact ⟨by rw [HR3.out]; rfl, below_drewN (HBE.out.trans (HU10.out.mono HBE.out.size)) nq⟩
          · -- 9, 6
            go_simp
            have hb9 := Lib.bytesWorld_below w5 5 ⟨h.toArray⟩
            have hB9 := ShaJ.conv_bs w5 h
            have hS9 := KN.out _ _ hS5 hb9
            refine hK.out _ _ (fun _ => hS9) ?_
            clear hK K
            generalize grownCap w5 h.length 0 5 = cc9 at *
            generalize Lib.bytesWorld w5 5 ⟨h.toArray⟩ = ww9 at *
            try simp only [Act.put, List.setIfInBounds_toArray, List.set_cons_zero, List.set_cons_succ]
            refine wpAnyT_one (i := 6) (by kernel_rfl) rfl ?_
            intro K hK
            go_simp
            have hb6 := Lib.bytesWorld_below ww9 5 ⟨V.toArray⟩
            have hB6 := ShaJ.conv_bs ww9 V
            have hS6 := KN.out _ _ hS9 hb6
            refine hK.out _ _ (fun _ => hS6) ?_
            clear hK K
            generalize grownCap ww9 V.length 0 5 = cc6 at *
            generalize Lib.bytesWorld ww9 5 ⟨V.toArray⟩ = ww6 at *
            try simp only [Act.put, List.setIfInBounds_toArray, List.set_cons_zero, List.set_cons_succ]
            refine wpAnyT_one (i := 10) (by kernel_rfl) rfl ?_
            intro K hK
            go_simp
            go_at_call 79
            refine (Hex.sameW V h cc6 cc9 _ hB6 (hB9.below hb6) (by omega)).mono ?_
            rintro e w10 ⟨rfl, hb10⟩
            rw [HQE.out]
            have hS10 := KN.out _ _ hS6 hb10
            try go_wp2_with fail
            refine hK.out _ _ (fun _ => hS10) ?_
            clear hK K
            try simp only [Act.put, List.setIfInBounds_toArray, List.set_cons_zero, List.set_cons_succ]
            refine wpAnyT_one (i := 11) (by kernel_rfl) rfl ?_
            intro K hK
            go_simp
            refine hK.out _ _ (fun _ => hS10) ?_
            clear hK K
            try simp only [Act.put, List.setIfInBounds_toArray, List.set_cons_zero, List.set_cons_succ]
            refine wpAnyT_done (by kernel_rfl) ?_ _
            have HU10 := Lib.hid (show Below w3.heap.size w3 w10 from HUK.out.trans (hS10.2.mono HUK.out.size))
            have hE10 := HE3.out.below HU10.out
            have d1 := hE10.den
            have d2 := hE10.skw
            obtain ⟨v0, v1, v2, -, -, -⟩ := (HQ.out.below HU10.out).cells
            clear hE10 hS10 hb10
            clear HQE
            cases qe
            rotate_left
            · have HR2 := HQ2.out rfl
              by_cases e3 : now < n - 100
              · rw [if_pos (.inl e3)] at HR2
                have HR3 := Lib.hid (HM.out.trans HR2); clear HR2
                go_wp2_with fail
                go_quiet (fail)
                go_wp2_with fail
                go_ret2
                exact ⟨by rw [HR3.out]; rfl, below_drewN (HBE.out.trans (HU10.out.mono HBE.out.size)) nq⟩
              · by_cases e4 : n + 100 < now
                · rw [if_pos (.inr e4)] at HR2
                  have HR3 := Lib.hid (HM.out.trans HR2); clear HR2
                  go_wp2_with fail
                  go_quiet (fail)
                  go_wp2_with fail
                  go_ret2
                  exact ⟨by rw [HR3.out]; rfl, below_drewN (HBE.out.trans (HU10.out.mono HBE.out.size)) nq⟩
                · rw [if_neg (by omega)] at HR2
                  have HR3 := Lib.hid (HM.out.trans HR2); clear HR2
                  go_wp2_with fail
                  go_ret2
                  exact ⟨by rw [HR3.out]; rfl, HBE.out.trans (HU10.out.mono HBE.out.size)⟩
            · have HR3 := Lib.hid (HM.out.trans (HQ3.out rfl))
              go_wp2_with fail
              go_quiet (fail)
              go_wp2_with fail
              go_ret2
              exact ⟨by rw [HR3.out]; rfl, below_drewN (HBE.out.trans (HU10.out.mono HBE.out.size)) nq⟩
        · -- 9, 5, 6
          go_simp
          have hb9 := Lib.bytesWorld_below wk.drew 5 ⟨h.toArray⟩
          have hB9 := ShaJ.conv_bs wk.drew h
          have hS9 := KN.out _ _ HS0.out hb9
          refine hK.out _ _ (fun _ => hS9) ?_
          clear hK K
          generalize grownCap wk.drew h.length 0 5 = cc9 at *
          generalize Lib.bytesWorld wk.drew 5 ⟨h.toArray⟩ = ww9 at *
          try simp only [Act.put, List.setIfInBounds_toArray, List.set_cons_zero, List.set_cons_succ]
          refine wpAnyT_one (i := 5) (by kernel_rfl) rfl ?_
          intro K hK
          go_simp
          go_at_call 74
          refine (KS.out _ hS9).mono ?_
          rintro e w5 ⟨rfl, hb5⟩
          have hS5 := KN.out _ _ hS9 hb5
          try go_wp2_with fail
          refine hK.out _ _ (fun _ => hS5) ?_
          clear hK K
          try simp only [Act.put, List.setIfInBounds_toArray, List.set_cons_zero, List.set_cons_succ]
          refine wpAnyT_one (i := 6) (by kernel_rfl) rfl ?_
          intro K hK
          go_simp
          have hb6 := Lib.bytesWorld_below w5 5 ⟨V.toArray⟩
          have hB6 := ShaJ.conv_bs w5 V
          have hS6 := KN.out _ _ hS5 hb6
          refine hK.out _ _ (fun _ => hS6) ?_
          clear hK K
          generalize grownCap w5 V.length 0 5 = cc6 at *
          generalize Lib.bytesWorld w5 5 ⟨V.toArray⟩ = ww6 at *
          try simp only [Act.put, List.setIfInBounds_toArray, List.set_cons_zero, List.set_cons_succ]
          refine wpAnyT_one (i := 10) (by kernel_rfl) rfl ?_
          intro K hK
          go_simp
          go_at_call 79
          refine (Hex.sameW V h cc6 cc9 _ hB6 ((hB9.below hb5).below hb6) (by omega)).mono ?_
          rintro e w10 ⟨rfl, hb10⟩
          rw [HQE.out]
          have hS10 := KN.out _ _ hS6 hb10
          try go_wp2_with fail
          refine hK.out _ _ (fun _ => hS10) ?_
          clear hK K
          try simp only [Act.put, List.setIfInBounds_toArray, List.set_cons_zero, List.set_cons_succ]
          refine wpAnyT_one (i := 11) (by kernel_rfl) rfl ?_
          intro K hK
          go_simp
          refine hK.out _ _ (fun _ => hS10) ?_
          clear hK K
          try simp only [Act.put, List.setIfInBounds_toArray, List.set_cons_zero, List.set_cons_succ]
          refine wpAnyT_done (by kernel_rfl) ?_ _
          have HU10 := Lib.hid (show Below w3.heap.size w3 w10 from HUK.out.trans (hS10.2.mono HUK.out.size))
          have hE10 := HE3.out.below HU10.out
          have d1 := hE10.den
          have d2 := hE10.skw
          obtain ⟨v0, v1, v2, -, -, -⟩ := (HQ.out.below HU10.out).cells
          clear hE10 hS10 hb10
          clear HQE
          cases qe
          rotate_left
          · have HR2 := HQ2.out rfl
            by_cases e3 : now < n - 100
            · rw [if_pos (.inl e3)] at HR2
              have HR3 := Lib.hid (HM.out.trans HR2); clear HR2
              go_wp2_with fail
              go_quiet (fail)
              go_wp2_with fail
              go_ret2
              exact ⟨by rw [HR3.out]; rfl, below_drewN (HBE.out.trans (HU10.out.mono HBE.out.size)) nq⟩
            · by_cases e4 : n + 100 < now
              · rw [if_pos (.inr e4)] at HR2
                have HR3 := Lib.hid (HM.out.trans HR2); clear HR2
                go_wp2_with fail
                go_quiet (fail)
                go_wp2_with fail
                go_ret2
                exact ⟨by rw [HR3.out]; rfl, below_drewN (HBE.out.trans (HU10.out.mono HBE.out.size)) nq⟩
              · rw [if_neg (by omega)] at HR2
                have HR3 := Lib.hid (HM.out.trans HR2); clear HR2
                go_wp2_with fail
                go_ret2
                exact ⟨by rw [HR3.out]; rfl, HBE.out.trans (HU10.out.mono HBE.out.size)⟩
          · have HR3 := Lib.hid (HM.out.trans (HQ3.out rfl))
            go_wp2_with fail
            go_quiet (fail)
            go_wp2_with fail
            go_ret2
            exact ⟨by rw [HR3.out]; rfl, below_drewN (HBE.out.trans (HU10.out.mono HBE.out.size)) nq⟩
      · have t1 : (kn == a) = false := by rw [beq_eq_false_iff_ne]; exact e1
        rw [if_neg e1] at HAt
        go_wp2_with fail
        go_roundg (ks.length - (k + 1))
        case measure => have := HG.out; omega
        case rel => exact ⟨k + 1, by have := HG.out; omega, by go_num, Lib.hid (HM.out.trans HAt.out), Lib.hid (HU.out.alloc HU.out.size _)⟩
    · obtain rfl : k = ks.length := by omega
      have z1 : ¬ ((ks.length : Int) < (ks.length : Int)) := by omega
      have HM2 := Lib.hid (show Sg.check m t bd fs ks now = .no .denied by rw [HM.out, List.drop_length]; rfl)
      have q1 := (HE3.out.below HU.out).den
      go_wp2_with fail
      go_quiet (fail)
      go_wp2_with fail
      go_ret2
      exact ⟨by rw [HM2.out]; rfl, below_drewN (HBE.out.trans (HU.out.mono HBE.out.size)) nq⟩
end Go.Proofs.YtidflagmdabfaaaGreatDoor.SgH
