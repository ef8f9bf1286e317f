/-
  The walk of the document's Check. The walk of the law SigChecks.
-/
import Derived.Test.YtidflagmdabfaaaGreatDoorSg21
import Derived.Test.YtidflagmdabfaaaGreatDoorSg24
import Derived.Test.YtidflagmdabfaaaGreatDoorSc07
import Derived.Test.YtidflagmdabfaaaGreatDoorSc09
import Derived.Test.YtidflagmdabfaaaGreatDoorCh01
import Derived.Test.YtidflagmdabfaaaGreatDoorCh02
import Derived.Deep.CutRange
namespace Go.Proofs.YtidflagmdabfaaaGreatDoor.RcC
open Go.RowKit Go.Proofs.YtidflagmdabfaaaGreatDoor Go.Proofs.YtidflagmdabfaaaGreatDoor.HtW Go.Proofs.YtidflagmdabfaaaGreatDoor.HtC Go.Proofs.YtidflagmdabfaaaGreatDoor.SgB Go.Proofs.YtidflagmdabfaaaGreatDoor.RcP Go.Proofs.YtidflagmdabfaaaGreatDoor.RcA Go.Proofs.YtidflagmdabfaaaGreatDoor.RsT

theorem chk_req {m t bd : List UInt8} {fs ks : List Sg.Fld} {now : Int} {u : Up.Uri} (hP : Up.parse t = some u) (hc : Sg.claimed fs = none) : Sg.check m t bd fs ks now = .no .req := by
  unfold Sg.check
  rw [hP]
  simp only
  rw [hc]
theorem chk_keys {m t bd : List UInt8} {fs ks : List Sg.Fld} {now : Int} {u : Up.Uri} {n : Nat} {a h : List UInt8} (hP : Up.parse t = some u) (hc : Sg.claimed fs = some (n, a, h)) : Sg.check m t bd fs ks now = Sg.among (Sg.lines m u bd n) a h n now ks := by
  unfold Sg.check
  rw [hP]
  simp only
  rw [hc]
theorem cut_at {L : List UInt8} {k : Nat} (h9 : 9 ≤ k) (hk : L[k]? = some 58) : L.drop 9 = (L.take k).drop 9 ++ 58 :: L.drop (k + 1) := by
  obtain ⟨hlt, he⟩ := List.getElem?_eq_some_iff.1 hk
  conv => lhs; rw [← List.take_append_drop k L]
  rw [List.drop_append_of_le_length (by rw [List.length_take]; omega), List.drop_eq_getElem_cons hlt, he]
theorem ext_mk (s : ByteArray) (i j : Nat) : s.extract i j = ⟨((s.data.toList.take j).drop i).toArray⟩ := by
  rw [← Com.extract_data, Com.mk_data]
/-- a time that lies off -/
theorem off_or (now : Int) (n : Nat) (hn : n ≤ 1099511627776) (n0 : -9223372036854775808 ≤ now) (n1 : now ≤ 9223372036854775807) :
    (100 < wrap64 (now - (n : Int)) ∨ 100 < wrap64 ((n : Int) - now) ∨ now < -1000) ↔ (now < (n : Int) - 100 ∨ (n : Int) + 100 < now) := by
  by_cases h : now < -1000
  · exact ⟨fun _ => by omega, fun _ => .inr (.inr h)⟩
  · have e1 : wrap64 (now - (n : Int)) = now - (n : Int) := by unfold wrap64; omega
    have e2 : wrap64 ((n : Int) - now) = (n : Int) - now := by unfold wrap64; omega
    rw [e1, e2]
    omega
/-- a signature beside what stands -/
theorem sigC (X : World) (B : Nat) (v1 : Value) (x s : List UInt8) (d : Nat) (w : World) (hd : d ≤ 1099511627776) (hx : x.length ≤ 140737488340000) (hs : s.length ≤ 140737488340000) (h : w.cell? ⟨B, 1, none⟩ = some v1 ∧ Below X.heap.size X w) :
    Calls Tryz.prog 41 #[.string ⟨x.toArray⟩, .string ⟨s.toArray⟩, .int .i64 (d : Int)] w fun e w' => e = .returned (.string ⟨(Sg.sigOf x s d).toArray⟩) ∧ (w'.cell? ⟨B, 1, none⟩ = some v1 ∧ Below X.heap.size X w') := by
  refine (RsS.rsig x s d w hx hs (by omega)).mono ?_
  rintro e w' ⟨rfl, hb⟩
  exact ⟨rfl, (hb.cell (World.block_lt_of_cell? w _ h.1)).trans h.1, h.2.trans (hb.mono h.2.size)⟩

set_option maxHeartbeats 8000000 in
set_option maxRecDepth 100000 in
theorem rcheck (m t bd : List UInt8) (fs ks : List Sg.Fld) {ab af ak : Option Addr} (cb cf ck : Nat) (now : Int) (w : World) (hb : Bs w ab bd cb) (hf : Fs w af fs) (hk : Fs w ak ks) (hfl : fs.length ≤ 4294967296) (hkl : ks.length ≤ 4294967296) (hkv : ∀ q ∈ ks, q.2.length ≤ 16777216) (hv : ∀ q ∈ fs, q.2.length ≤ 16777216) (ht : t.length ≤ 16777215) (hm : m.length ≤ 16777216) (hbl : bd.length ≤ 140737488350000) (n0 : -9223372036854775808 ≤ now) (n1 : now ≤ 9223372036854775807) :
    Calls Tryz.prog 40 #[.agg #[.string ⟨m.toArray⟩, .string ⟨t.toArray⟩, .slice af fs.length cf, .slice ab bd.length cb], .slice ak ks.length ck, .int .i64 now] w fun e w' => e = .returned (rv (Sg.check m t bd fs ks now)) ∧ Below w.heap.size w w' := by
  have HF := Lib.hid hf; clear hf
  have HBd := Lib.hid hb; clear hb
  have HK := Lib.hid hk; clear hk
  have hA := (Below.refl w.heap.size w).alloc (Nat.le_refl _) (.cells #[.string ⟨m.toArray⟩, .string ⟨t.toArray⟩, .slice af fs.length cf, .slice ab bd.length cb] 25)
  have hR0 : Rq w.heap.size (w.alloc (.cells #[.string ⟨m.toArray⟩, .string ⟨t.toArray⟩, .slice af fs.length cf, .slice ab bd.length cb] 25)) _ _ _ _ := heap_alloc_new w _
  have hts : (ByteArray.mk t.toArray).size ≤ 16777216 := by rw [Com.size_mk]; omega
  have KP := Lib.hid (UriK.parse ⟨t.toArray⟩ (w.alloc (.cells #[.string ⟨m.toArray⟩, .string ⟨t.toArray⟩, .slice af fs.length cf, .slice ab bd.length cb] 25)) hts)
  cases hP : Up.parse t with
  | none =>
    have HR := Lib.hid (show Sg.check m t bd fs ks now = .no .uri by unfold Sg.check; rw [hP])
    have HP := Lib.hid hP
    clear hP
    go_enter Tryz.func40, Tryz.ntmps40
    go_wp2_with fail
    refine KP.out.mono ?_
    rw [HP.out]
    rintro e w1 ⟨rfl, hb1⟩
    go_wp2_with fail
    go_ret2
    exact ⟨by rw [HR.out]; rfl, (hA.trans (hb1.mono hA.size)).alloc (Nat.le_trans hA.size hb1.size) _⟩
  | some u =>
    have HP := Lib.hid hP
    have HRQ := Lib.hid (show Sg.claimed fs = none → Sg.check m t bd fs ks now = .no .req from chk_req hP)
    clear hP
    go_enter Tryz.func40, Tryz.ntmps40
    go_wp2_with fail
    refine KP.out.mono ?_
    rw [HP.out]
    rintro e w1 ⟨⟨aq, cq, rfl, -, -⟩, hb1⟩
    have hbA := hA.trans (hb1.mono hA.size)
    have hb2 := (Below.refl w1.heap.size w1).alloc (Nat.le_refl _) (.cells #[.string ⟨u.path.toArray⟩, .slice aq u.query.length cq] 97)
    have HR2 := Lib.hid ((hR0.below hb1).below hb2)
    have HB2 := Lib.hid (hbA.trans (hb2.mono hbA.size))
    clear hA hR0 KP hbA hb1
    go_upto_region 4 with fail
    generalize w1.alloc _ = w2 at *
    clear hb2
    obtain ⟨x0, x1, x2, x3, -, -, -, -⟩ := HR2.out.cells
    have K1 := Lib.hid (RcA.one (.string ⟨m.toArray⟩) (.string ⟨t.toArray⟩) (.slice ab bd.length cb) Sg.xdate cf w2 (HF.out.below HB2.out) (by omega))
    go_wp2_with fail
    refine K1.out.mono ?_
    rintro e w3 ⟨rfl, hb3⟩
    have HR3 := Lib.hid (HR2.out.below hb3)
    have HB3 := Lib.hid (HB2.out.trans (hb3.mono HB2.out.size))
    clear x0 x1 x2 x3 K1 hb3 HR2 HB2
    obtain ⟨x0, x1, x2, x3, -, -, -, -⟩ := HR3.out.cells
    have K1 := Lib.hid (RcA.one (.string ⟨m.toArray⟩) (.string ⟨t.toArray⟩) (.slice ab bd.length cb) Sg.auth cf w3 (HF.out.below HB3.out) (by omega))
    go_wp2_with fail
    refine K1.out.mono ?_
    rintro e w4 ⟨rfl, hb4⟩
    have HB4 := Lib.hid (HB3.out.trans (hb4.mono HB3.out.size))
    have HR4 := Lib.hid (HR3.out.below hb4)
    clear x0 x1 x2 x3 K1 hb4 HR3 HB3
    have KD := Lib.hid (RcA.date ⟨(lastOf fs Sg.xdate).toArray⟩ w4 (by rw [Com.size_mk]; have := last_len hv Sg.xdate; omega))
    go_wp2_with fail
    refine KD.out.mono ?_
    rintro e w5 ⟨⟨z, rfl, hz⟩, hw5⟩
    subst hw5
    have HZ := Lib.hid hz
    clear KD hz
    have hal := last_len hv Sg.auth
    by_cases hc1 : Ht.cnt fs Sg.xdate = 1
    · by_cases hc2 : Ht.cnt fs Sg.auth = 1
      · cases hc3 : Nm.numOf (lastOf fs Sg.xdate) with
        | none =>
          have HR := Lib.hid (HRQ.out (claimed_no3 hc1 hc2 hc3))
          rw [decide_eq_true hc1, decide_eq_true hc2]
          clear hc1 hc2 hc3
          go_wp2_with fail
          go_ret2
          exact ⟨by rw [HR.out]; rfl, HB4.out⟩
        | some n =>
          obtain rfl := HZ.out n hc3
          have HRP := Lib.hid (show Sg.parts (lastOf fs Sg.auth) = none → Sg.check m t bd fs ks now = .no .req from fun h => HRQ.out (claimed_no4 hc1 hc2 h))
          have HRY := Lib.hid (show ∀ a h, Sg.parts (lastOf fs Sg.auth) = some (a, h) → Sg.check m t bd fs ks now = Sg.among (Sg.lines m u bd n) a h n now ks from fun a h e => chk_keys HP.out (claimed_yes hc1 hc2 hc3 e))
          have hn40 : n ≤ 1099511627776 := ((Nm.numOf_iff _ _).1 hc3).2
          rw [decide_eq_true hc1, decide_eq_true hc2]
          clear hc1 hc2 hc3 HZ
          obtain ⟨s, hs⟩ : ∃ s : ByteArray, s = ⟨(lastOf fs Sg.auth).toArray⟩ := ⟨_, rfl⟩
          have hsl : s.data.toList = lastOf fs Sg.auth := by rw [hs]
          have hsz : s.size = (lastOf fs Sg.auth).length := by rw [hs, Com.size_mk]
          rw [← hsl] at HRP HRY
          rw [← hs]
          clear hs hsl
          rw [← hsz] at hal
          clear hsz
          by_cases h74 : s.size < 74
          · have q1 : decide ((s.size : Int) < 74) = true := decide_eq_true (by omega)
            have HR := Lib.hid (HRP.out (parts_short (by rw [Com.toList_length]; exact h74)))
            go_wp2_with fail
            go_ret2
            exact ⟨by rw [HR.out]; rfl, HB4.out⟩
          · have q1 : decide ((s.size : Int) < 74) = false := decide_eq_false (by omega)
            have y9 : (9 : Int) ≤ (s.size : Int) := by omega
            have he9 : s.extract 0 9 = ⟨(s.data.toList.take 9).toArray⟩ := by rw [ext_mk, List.drop_zero]
            obtain ⟨p9, hp9⟩ : ∃ p9, p9 = s.data.toList.take 9 := ⟨_, rfl⟩
            rw [← hp9] at he9
            by_cases h9 : p9 = lead
            · have HP9 := Lib.hid (show s.data.toList.take 9 = lead from hp9.symm.trans h9)
              have t9 : (p9 == [66, 79, 76, 76, 65, 82, 68, 49, 32]) = true := beq_iff_eq.2 h9
              clear hp9 h9
              go_wp2_with fail
              clear he9 t9
              go_loopg [16] (s.size - 9) (fun g v16 wr => ∃ k : Nat, k + g = s.size ∧ v16 = .int .i64 k ∧ 9 ≤ k ∧ Hid ((58 : UInt8) ∉ (s.data.toList.take k).drop 9) ∧ w4 = wr)
              case atStart => exact ⟨9, by omega, rfl, by omega, by unfold Hid; rw [List.drop_eq_nil_of_le (by rw [List.length_take]; omega)]; simp, rfl⟩
              case round =>
                obtain ⟨k, hkg, rfl, hk9, HN, rfl⟩ := hrel
                have HG := Lib.hid hkg
                have HWP := Lib.hid (IntWalk.i64_in ((k : Int) + 65) ⟨by omega, by omega⟩)
                have hwp := HWP.out
                have y0 : (0 : Int) ≤ (k : Int) := by omega
                have y9k : (9 : Int) ≤ (k : Int) := by omega
                have y8 : (k : Int) ≤ (s.size : Int) := by omega
                by_cases hlt : k < s.size
                · have y1 : (k : Int) < (s.size : Int) := by omega
                  by_cases h58 : s[k] = 58
                  · have q58 : ((s[k].toNat : Int) != 58) = false := by rw [h58]; rfl
                    have HCA := Lib.hid (cut_at (L := s.data.toList) hk9 (by rw [List.getElem?_eq_getElem (by rw [Com.toList_length]; exact hlt)]; exact congrArg some h58))
                    have HPA := Lib.hid (parts_at HP9.out HCA.out HN.out)
                    have hx1 : s.extract 9 k = ⟨((s.data.toList.take k).drop 9).toArray⟩ := ext_mk s 9 k
                    have hx2 : s.extract (k + 1) s.size = ⟨(s.data.toList.drop (k + 1)).toArray⟩ := by
                      rw [ext_mk, List.take_of_length_le (by rw [Com.toList_length]; exact Nat.le_refl _)]
                    have hhl : (s.data.toList.drop (k + 1)).length = s.size - (k + 1) := by rw [List.length_drop, Com.toList_length]
                    have hnl : ((s.data.toList.take k).drop 9).length ≤ s.size := by rw [List.length_drop, List.length_take, Com.toList_length]; omega
                    obtain ⟨N, hN⟩ : ∃ N, N = (s.data.toList.take k).drop 9 := ⟨_, rfl⟩
                    obtain ⟨X, hX⟩ : ∃ X, X = s.data.toList.drop (k + 1) := ⟨_, rfl⟩
                    rw [← hN] at HPA hx1 hnl
                    rw [← hX] at HPA hx2 hhl
                    clear hN hX h58 HN HCA
                    by_cases h65 : k + 65 = s.size
                    · have q65 : ((k : Int) + 65 != (s.size : Int)) = false := by
                        have : (k : Int) + 65 = (s.size : Int) := by omega
                        rw [this]; simp
                      have hX64 : X.length = 64 := by omega
                      have KG := Lib.hid (RgN.goodNameR ⟨N.toArray⟩ w4 (by rw [Com.size_mk]; omega))
                      have KU := Lib.hid (RcB.unhex ⟨X.toArray⟩ w4 (by rw [Com.size_mk]; omega))
                      cases hg : Sg.goodName N with
                      | false =>
                        have HR := Lib.hid (HRP.out (by rw [HPA.out, if_neg (fun e => by rw [hg] at e; cases e.1)]))
                        have HGN := Lib.hid hg
                        clear hkg hg
                        go_wp2_with fail
                        refine KG.out.mono ?_
                        rintro e w5 ⟨rfl, hw5⟩
                        subst hw5
                        rw [show Sg.goodName (ByteArray.mk N.toArray).data.toList = false from HGN.out]
                        go_wp2_with fail
                        go_ret2
                        exact ⟨by rw [HR.out]; rfl, HB4.out⟩
                      | true =>
                        have HGN := Lib.hid hg
                        clear hg
                        cases hxx : Nm.isHex X with
                        | false =>
                          have HR := Lib.hid (HRP.out (by rw [HPA.out, if_neg (fun e => by rw [hxx] at e; cases e.2.2)]))
                          have HXN := Lib.hid hxx
                          clear hkg hxx
                          go_wp2_with fail
                          refine KG.out.mono ?_
                          rintro e w5 ⟨rfl, hw5⟩
                          subst hw5
                          rw [show Sg.goodName (ByteArray.mk N.toArray).data.toList = true from HGN.out]
                          go_wp2_with fail
                          refine KU.out.mono ?_
                          rintro e w5 ⟨⟨v, rfl⟩, hb5⟩
                          rw [show Nm.isHex (ByteArray.mk X.toArray).data.toList = false from HXN.out]
                          go_wp2_with fail
                          go_ret2
                          exact ⟨by rw [HR.out]; rfl, HB4.out.trans (hb5.mono HB4.out.size)⟩
                        | true =>
                          have HR := Lib.hid (HRY.out N X (by rw [HPA.out, if_pos ⟨HGN.out, hX64, hxx⟩]))
                          have HXN := Lib.hid hxx
                          clear hkg hxx
                          go_wp2_with fail
                          refine KG.out.mono ?_
                          rintro e w5 ⟨rfl, hw5⟩
                          subst hw5
                          rw [show Sg.goodName (ByteArray.mk N.toArray).data.toList = true from HGN.out]
                          go_wp2_with fail
                          refine KU.out.mono ?_
                          rintro e w5 ⟨⟨v, rfl⟩, hb5⟩
                          rw [show Nm.isHex (ByteArray.mk X.toArray).data.toList = true from HXN.out]
                          have HR5 := Lib.hid (HR4.out.below hb5)
                          have HB5 := Lib.hid (HB4.out.trans (hb5.mono HB4.out.size))
                          obtain ⟨x0, x1, x2, x3, -, -, -, -⟩ := HR5.out.cells
                          have KT := Lib.hid (RsT.rtext m t bd (.slice af fs.length cf) cb n w5 (HBd.out.below HB5.out) ht hm hbl (by omega) (by omega))
                          have HTX := Lib.hid (show Sg.text m t bd n = .ok (Sg.lines m u bd n) by
                            unfold Sg.text; rw [HP.out]; simp only; rw [if_pos]; simp only [Sg.goodDate, Bool.and_eq_true, decide_eq_true_eq]; omega)
                          have HLL := Lib.hid (lines_len (bd := bd) (date := (n : Int)) HP.out (by omega) hm (by omega) (by omega))
                          clear hb5 HB4 HR4 KG KU
                          go_wp2_with fail
                          refine KT.out.mono ?_
                          rw [HTX.out]
                          rintro e w6 ⟨rfl, hb6⟩
                          have HB6 := Lib.hid (HB5.out.trans (hb6.mono HB5.out.size))
                          obtain ⟨T, hT⟩ : ∃ T, T = Sg.lines m u bd n := ⟨_, rfl⟩
                          rw [← hT] at HLL HR
                          rw [show rv (.ok (Sg.lines m u bd n)) = .tuple #[.string ⟨(Sg.lines m u bd n).toArray⟩, .int .i64 0] from rfl, ← hT]
                          have hTl := HLL.out
                          clear hT HLL HTX KT hb6 HB5 HR5 x0 x1 x2 x3
                          go_wp2_with fail
                          clear q58 q65 hwp
                          go_loopg [108] ks.length (fun g v108 wr => ∃ k' : Nat, k' + g = ks.length ∧ v108 = .int .i64 k' ∧ Hid (Sg.among T N X n now ks = Sg.among T N X n now (ks.drop k')) ∧ Hid (Below w.heap.size w wr))
                          case atStart => exact ⟨0, by simp, rfl, rfl, HB6.out⟩
                          case round =>
                            obtain ⟨k', hkg', rfl, HAM, HU⟩ := hrel
                            have HG' := Lib.hid hkg'
                            clear hkg'
                            by_cases hlk : k' < ks.length
                            · obtain ⟨q, hqk⟩ : ∃ q, ks[k']? = some q := ⟨ks[k'], List.getElem?_eq_getElem hlk⟩
                              have hqv := hkv q (List.mem_of_getElem? hqk)
                              have HAT := Lib.hid (SgG.among_at (x := T) (name := N) (hex := X) (n := n) (now := now) hqk)
                              obtain ⟨b, o, rfl, hbb, d0, d1⟩ := Fs.at HK.out hqk
                              have c0 := (HU.out.cell (p := ⟨b, o + k' * 2, none⟩) hbb).trans d0
                              have c1 := (HU.out.cell (p := ⟨b, o + k' * 2 + 1, none⟩) hbb).trans d1
                              obtain ⟨kn, ksec⟩ := q
                              simp only at c0 c1 hqv
                              clear d0 d1 hqk
                              have hba := (Below.refl wr.heap.size wr).alloc (Nat.le_refl _) (.cells #[.string ⟨kn.toArray⟩, .string ⟨ksec.toArray⟩] 71)
                              have hY : (wr.alloc (.cells #[.string ⟨kn.toArray⟩, .string ⟨ksec.toArray⟩] 71)).heap[wr.heap.size]? = some (.cells #[.string ⟨kn.toArray⟩, .string ⟨ksec.toArray⟩] 71 (0, 0)) := heap_alloc_new wr _
                              have HBA := Lib.hid (HU.out.trans (hba.mono HU.out.size))
                              have k0 : (wr.alloc (.cells #[.string ⟨kn.toArray⟩, .string ⟨ksec.toArray⟩] 71)).cell? ⟨wr.heap.size, 0, none⟩ = some (.string ⟨kn.toArray⟩) := by rw [Lib.cell_of_heap hY]; rfl
                              have k1 : (wr.alloc (.cells #[.string ⟨kn.toArray⟩, .string ⟨ksec.toArray⟩] 71)).cell? ⟨wr.heap.size, 1, none⟩ = some (.string ⟨ksec.toArray⟩) := by rw [Lib.cell_of_heap hY]; rfl
                              cases tn : (kn == N) with
                              | false =>
                                have HAS := Lib.hid (show Sg.among T N X n now ks = Sg.among T N X n now (ks.drop (k' + 1)) by rw [HAM.out, HAT.out, if_neg (by simpa using tn)])
                                go_wp2_with fail
                                go_quiet (fail)
                                go_wp2_with fail
                                go_roundg (ks.length - (k' + 1))
                                case measure => have := HG'.out; omega
                                case rel => exact ⟨k' + 1, by have := HG'.out; omega, by go_num, HAS, below_drewN HBA.out nq⟩
                              | true =>
                                obtain rfl : N = kn := by simpa using (beq_iff_eq.1 tn).symm
                                clear tn
                                have HAS := Lib.hid (show Sg.among T N X n now ks = if Sg.sigOf T ksec n = X then (if now < (n : Int) - 100 ∨ (n : Int) + 100 < now then .no .skew else .ok N) else .no .denied by rw [HAM.out, HAT.out, if_pos rfl])
                                go_wp2_with fail
                                go_quiet (fail)
                                obtain ⟨w7, hw7⟩ : ∃ w7, w7 = (wr.alloc (.cells #[.string ⟨N.toArray⟩, .string ⟨ksec.toArray⟩] 71)).drewN nq := ⟨_, rfl⟩
                                have z0 : w7.cell? ⟨wr.heap.size, 0, none⟩ = some (.string ⟨N.toArray⟩) := by rw [hw7]; exact k0
                                have z1 : w7.cell? ⟨wr.heap.size, 1, none⟩ = some (.string ⟨ksec.toArray⟩) := by rw [hw7]; exact k1
                                have HB7 := Lib.hid (show Below w.heap.size w w7 by rw [hw7]; exact below_drewN HBA.out nq)
                                rw [← hw7]
                                clear hw7 k0 k1 hY hba HBA c0 c1
                                have KS := Lib.hid (show ∀ W, (W.cell? ⟨wr.heap.size, 1, none⟩ = some (.string ⟨ksec.toArray⟩) ∧ Below w7.heap.size w7 W) → _ from fun W hW => sigC w7 wr.heap.size (.string ⟨ksec.toArray⟩) T ksec n W hn40 (by omega) (by omega) hW)
                                have r1 : IntKind.i64.wrap ((k : Int) + 1) = (k : Int) + 1 := IntWalk.i64_in _ ⟨by omega, by omega⟩
                                have r2 : (0 : Int) ≤ (k : Int) + 1 := by omega
                                have r3 : (k : Int) + 1 ≤ (s.size : Int) := by omega
                                have r4 : ((k : Int) + 1).toNat = k + 1 := by omega
                                cases tsx : (Sg.sigOf T ksec n == X) with
                                | false =>
                                  have HR2 := Lib.hid (show Sg.among T N X n now ks = .no .denied by rw [HAS.out, if_neg (by simpa using tsx)])
                                  go_wp2_with fail
                                  go_region_held3 (fun W => W.cell? ⟨wr.heap.size, 1, none⟩ = some (.string ⟨ksec.toArray⟩) ∧ Below w7.heap.size w7 W)
                                    (first | exact ⟨z1, (Below.refl _ _).drew⟩ | assumption | go_keep)
                                    (first
                                      | (go_at_call 41; refine (KS.out _ (by assumption)).mono ?_; rintro e w8 ⟨rfl, hS8⟩))
                                  all_goals
                                    go_wp2_with fail
                                    go_ret2
                                    exact ⟨by rw [HR.out, HR2.out]; rfl, HB7.out.trans (hS8.2.mono HB7.out.size)⟩
                                | true =>
                                  have HOO := Lib.hid (off_or now n hn40 n0 n1)
                                  have HAT2 := Lib.hid (show Sg.among T N X n now ks = if now < (n : Int) - 100 ∨ (n : Int) + 100 < now then .no .skew else .ok N by rw [HAS.out, if_pos (by simpa using tsx)])
                                  go_wp2_with fail
                                  go_region_held3 (fun W => W.cell? ⟨wr.heap.size, 1, none⟩ = some (.string ⟨ksec.toArray⟩) ∧ Below w7.heap.size w7 W)
                                    (first | exact ⟨z1, (Below.refl _ _).drew⟩ | assumption | go_keep)
                                    (first
                                      | (go_at_call 41; refine (KS.out _ (by assumption)).mono ?_; rintro e w8 ⟨rfl, hS8⟩))
                                  all_goals
                                    have z8 := (hS8.2.cell (p := ⟨wr.heap.size, 0, none⟩) (World.block_lt_of_cell? _ _ z0)).trans z0
                                    go_wp2_with fail
                                    all_goals
                                      first
                                        | (have HR2 := Lib.hid (show Sg.among T N X n now ks = .no .skew by rw [HAT2.out, if_pos (HOO.out.1 (by omega))]); go_ret2; exact ⟨by rw [HR.out, HR2.out]; rfl, HB7.out.trans (hS8.2.mono HB7.out.size)⟩)
                                        | (have HR2 := Lib.hid (show Sg.among T N X n now ks = .ok N by rw [HAT2.out, if_neg (fun e => by have := HOO.out.2 e; omega)]); go_ret2; exact ⟨by rw [HR.out, HR2.out]; rfl, HB7.out.trans (hS8.2.mono HB7.out.size)⟩)
                            · have HR2 := Lib.hid (show Sg.among T N X n now ks = .no .denied by rw [HAM.out, List.drop_eq_nil_of_le (by omega)]; rfl)
                              go_wp2_with fail
                              go_ret2
                              exact ⟨by rw [HR.out, HR2.out]; rfl, HU.out⟩
                    · have q65 : ((k : Int) + 65 != (s.size : Int)) = true := by
                        rw [bne_iff_ne]; omega
                      have HR := Lib.hid (HRP.out (by rw [HPA.out, if_neg (fun e => by have := e.2.1; omega)]))
                      clear hkg
                      go_wp2_with fail
                      go_ret2
                      exact ⟨by rw [HR.out]; rfl, HB4.out⟩
                  · have q58 : ((s[k].toNat : Int) != 58) = true := Com.u8_bne h58 rfl
                    have HN2 := Lib.hid (show (58 : UInt8) ∉ (s.data.toList.take (k + 1)).drop 9 by
                      rw [Com.take_succ s k hlt, List.drop_append_of_le_length (by rw [List.length_take, Com.toList_length]; omega), List.mem_append]
                      rintro (h | h)
                      · exact HN.out h
                      · exact h58 (List.mem_singleton.1 h).symm)
                    clear hkg hwp
                    go_wp2_with fail
                    go_roundg (s.size - (k + 1))
                    case measure => have := HG.out; omega
                    case rel => exact ⟨k + 1, by have := HG.out; omega, by go_num, by omega, HN2, rfl⟩
                · have hkz : k = s.size := by omega
                  have HT := Lib.hid (Com.take_all s k hkz)
                  have HR := Lib.hid (HRP.out (parts_free (by have := HN.out; rw [HT.out] at this; exact this)))
                  have q65 : ((k : Int) + 65 != (s.size : Int)) = true := by rw [bne_iff_ne]; omega
                  clear hkg hkz
                  go_wp2_with fail
                  go_ret2
                  exact ⟨by rw [HR.out]; rfl, HB4.out⟩
            · have HR := Lib.hid (HRP.out (parts_lead (by rw [← hp9]; exact h9)))
              have t9 : (p9 == [66, 79, 76, 76, 65, 82, 68, 49, 32]) = false := beq_eq_false_iff_ne.2 h9
              clear hp9 h9
              go_wp2_with fail
              go_ret2
              exact ⟨by rw [HR.out]; rfl, HB4.out⟩
      · have HR := Lib.hid (HRQ.out (claimed_no2 hc2))
        rw [decide_eq_true hc1, decide_eq_false hc2]
        clear hc1 hc2
        go_wp2_with fail
        go_ret2
        exact ⟨by rw [HR.out]; rfl, HB4.out⟩
    · have HR := Lib.hid (HRQ.out (claimed_no1 hc1))
      rw [decide_eq_false hc1]
      clear hc1
      go_wp2_with fail
      go_ret2
      exact ⟨by rw [HR.out]; rfl, HB4.out⟩
end Go.Proofs.YtidflagmdabfaaaGreatDoor.RcC
namespace Go.Proofs.YtidflagmdabfaaaGreatDoor.SgT
open Go.RowKit Go.Proofs.YtidflagmdabfaaaGreatDoor Go.Proofs.YtidflagmdabfaaaGreatDoor.HtW Go.Proofs.YtidflagmdabfaaaGreatDoor.HtC Go.Proofs.YtidflagmdabfaaaGreatDoor.Ato Go.Proofs.YtidflagmdabfaaaGreatDoor.SgA Go.Proofs.YtidflagmdabfaaaGreatDoor.SgB Go.Proofs.YtidflagmdabfaaaGreatDoor.SgC Go.Proofs.YtidflagmdabfaaaGreatDoor.SgM Go.Proofs.YtidflagmdabfaaaGreatDoor.SgO Go.Proofs.YtidflagmdabfaaaGreatDoor.SgP

theorem keys_fs {w : World} {base : Nat} {ar : Option Addr} {cr : Nat} {ks : List Sg.Fld} (h : w.ownsRow base 71 2 (.slice ar (([] : List Sg.Fld).length + ks.length) cr) ([] ++ ks).length (fcells ([] ++ ks))) : Fs w ar ks := by
  have h' : w.ownsRow base 71 2 (.slice ar ks.length cr) ks.length (fcells ks) := by simpa using h
  obtain ⟨a, c, hv, -, hF⟩ := KyA.ks_of_own h'
  simp only [Value.slice.injEq, true_and] at hv
  obtain ⟨rfl, -⟩ := hv
  exact hF

set_option maxHeartbeats 4000000 in
set_option maxRecDepth 100000 in
theorem checks (m t bd : List UInt8) (fs ks : List Sg.Fld) {af ab ak : Option Addr} (cf cb ck : Nat) (now : Int) (w : World) {aU aR aD aK : Addr} {es : List Addr} (hE : Env w aU aR aD aK) (hN : Ne w) (hA : Err.All w es) (hR : es[12]? = some aR) (hU : es[13]? = some aU) (hD : es[14]? = some aD) (hK : es[15]? = some aK) (hf : Fs w af fs) (hfn : af = none → fs.length = 0 ∧ cf = 0) (hb : Bs w ab bd cb) (hk : Fs w ak ks) (hkn : ak = none → ks.length = 0 ∧ ck = 0)
    (hm : m.length ≤ 1048576) (ht : t.length ≤ 1048576) (hbl : bd.length ≤ 1048576) (hfl : fs.length ≤ 1048576) (hfv : ∀ q ∈ fs, q.2.length ≤ 1048576) (hkl : ks.length ≤ 1048576) (hkv : ∀ q ∈ ks, q.2.length ≤ 1048576)
    (n0 : -9223372036854775808 ≤ now) (n1 : now ≤ 9223372036854775807) :
    Calls Tryz.prog 9 #[.agg #[.string ⟨m.toArray⟩, .string ⟨t.toArray⟩, .slice af fs.length cf, .slice ab bd.length cb], .slice ak ks.length ck, .int .i64 now] w fun e w' => e = .returned (.bool true) ∧ Below w.heap.size w w' := by
  have E := Lib.hid hE; clear hE
  have HN := Lib.hid hN; clear hN
  have HA := Lib.hid hA; clear hA
  have HF := Lib.hid hf; clear hf
  have HB := Lib.hid hb; clear hb
  have HK := Lib.hid hk; clear hk
  have HFn := Lib.hid hfn; clear hfn
  have HKn := Lib.hid hkn; clear hkn
  have HFV := Lib.hid hfv; clear hfv
  have HKV := Lib.hid hkv; clear hkv
  have hX0 : Rq w.heap.size (w.alloc (.cells #[.string ⟨m.toArray⟩, .string ⟨t.toArray⟩, .slice af fs.length cf, .slice ab bd.length cb] 25)) _ _ _ _ := heap_alloc_new w _
  have hB0 := (Below.refl w.heap.size w).alloc (Nat.le_refl _) (.cells #[.string ⟨m.toArray⟩, .string ⟨t.toArray⟩, .slice af fs.length cf, .slice ab bd.length cb] 25)
  go_enter Tryz.func9, Tryz.ntmps9
  go_upto_region 1 with fail
  generalize w.alloc _ = w2 at *
  have HB2 := Lib.hid hB0
  have HX2 := Lib.hid hX0
  clear hX0 hB0
  go_wp2_with fail
  refine (SgN.alive w2 (E.out.below HB2.out) (HN.out.below HB2.out)).mono ?_
  rintro e w3 ⟨rfl, hb3⟩
  have HB3 := Lib.hid (HB2.out.trans (hb3.mono HB2.out.size))
  have HX3 := Lib.hid (HX2.out.below hb3)
  clear HX2 HB2 hb3
  obtain ⟨x0, x1, x2, x3, -, -, -, -⟩ := HX3.out.cells
  have KC := Lib.hid (SgQ.copied m t bd fs cf cb w3 (HF.out.below HB3.out) HFn.out (HB.out.below HB3.out) (by omega) (by omega))
  go_wp2_with fail
  refine KC.out.mono ?_
  rintro e w4 ⟨a2, c2, a3, c3, rfl, ho2, ho3, hb4⟩
  have HB4 := Lib.hid (HB3.out.trans (hb4.mono HB3.out.size))
  have HX4 := Lib.hid (HX3.out.below hb4)
  have hb5 := (Below.refl w4.heap.size w4).alloc (Nat.le_refl _) (.cells #[.string ⟨m.toArray⟩, .string ⟨t.toArray⟩, .slice a2 fs.length c2, .slice a3 bd.length c3] 25)
  have hQ5 : Rq w4.heap.size (w4.alloc (.cells #[.string ⟨m.toArray⟩, .string ⟨t.toArray⟩, .slice a2 fs.length c2, .slice a3 bd.length c3] 25)) _ _ _ _ := heap_alloc_new w4 _
  clear x0 x1 x2 x3 KC hb4 HX3 HB3
  go_upto_region 4 with fail
  obtain ⟨N4, hN4⟩ : ∃ N4, N4 = w4.heap.size := ⟨_, rfl⟩
  have HB5 := Lib.hid (HB4.out.trans (hb5.mono HB4.out.size))
  have HX5 := Lib.hid (HX4.out.below hb5)
  have HO2 := Lib.hid (Com.own_below ho2 hb5)
  have HO3 := Lib.hid (Com.own_below ho3 hb5)
  rw [← hN4] at hQ5 ⊢
  generalize w4.alloc _ = w5 at *
  have HQ5 := Lib.hid hQ5
  clear hQ5 hN4 hb5 ho2 ho3 HX4 HB4
  obtain ⟨aF, cF, hv, -, hFs⟩ := fs_of_own HO2.out
  simp only [Value.slice.injEq, true_and] at hv
  obtain ⟨rfl, rfl⟩ := hv
  have HF5 := Lib.hid hFs
  have HC5 := Lib.hid (SgK.own_bs HO3.out)
  have HK5 := Lib.hid (HK.out.below HB5.out)
  clear hFs HO2 HO3
  obtain ⟨q0, q1, q2, q3, -, -, -, -⟩ := HQ5.out.cells
  obtain ⟨x, V1, nk, hv1, hv2, hn1⟩ := SgY.text_view hR hU hD hK (Sg.check m t bd fs ks now)
  have HV2 := Lib.hid hv2
  have HN1 := Lib.hid hn1
  have KCk := Lib.hid (show ∀ W (ar : Option Addr) (cr : Nat), Below w5.heap.size w5 W → Fs W ar ks → Calls Tryz.prog 39 #[.agg #[.string ⟨m.toArray⟩, .string ⟨t.toArray⟩, .slice a2 fs.length c2, .slice a3 bd.length c3], .slice ar ks.length cr, .int .i64 now] W (fun e w' => e = .returned (.tuple #[.string ⟨x.toArray⟩, V1]) ∧ Below W.heap.size W w') from fun W ar cr hW hKs =>
    (SgK.check m t bd fs ks (ab := a3) (af := a2) (ak := ar) c3 c2 cr now W (E.out.below (HB5.out.trans (hW.mono HB5.out.size))) (HC5.out.below hW) (HF5.out.below hW) hKs (HN.out.below (HB5.out.trans (hW.mono HB5.out.size))) (by omega) (by omega) (fun q hq => by have := HKV.out q hq; omega) (fun q hq => by have := HFV.out q hq; omega) (by omega) (by omega) (by omega) n0 n1).mono fun e w' h => ⟨h.1.trans (congrArg Ending.returned hv1), h.2⟩)
  clear hv1 hv2 hn1
  have HW0 := Lib.hid (show ∀ o, Below w5.heap.size w5 (w5.alloc o).drew from fun o => ((Below.refl _ _).alloc (Nat.le_refl _) o).drew)
  have HS := Lib.hid (show ∀ W, Below w5.heap.size w5 W → (W.cell? ⟨N4, 0, none⟩ = some (.string ⟨m.toArray⟩) ∧ W.cell? ⟨N4, 1, none⟩ = some (.string ⟨t.toArray⟩) ∧ W.cell? ⟨N4, 2, none⟩ = some (.slice a2 fs.length c2) ∧ W.cell? ⟨N4, 3, none⟩ = some (.slice a3 bd.length c3)) ∧ Below w5.heap.size w5 W from fun W hW => by
    obtain ⟨z0, z1, z2, z3, -⟩ := (HQ5.out.below hW).cells
    exact ⟨⟨z0, z1, z2, z3⟩, hW⟩)
  have hS0 := HS.out w5.drew (Below.refl _ _).drew
  go_region_held3 (fun W => (W.cell? ⟨N4, 0, none⟩ = some (.string ⟨m.toArray⟩) ∧ W.cell? ⟨N4, 1, none⟩ = some (.string ⟨t.toArray⟩) ∧ W.cell? ⟨N4, 2, none⟩ = some (.slice a2 fs.length c2) ∧ W.cell? ⟨N4, 3, none⟩ = some (.slice a3 bd.length c3)) ∧ Below w5.heap.size w5 W)
    (first | assumption | exact HS.out _ (HW0.out _) | go_keep)
    (first
      | (refine KyA.step_append_keys (by rfl) (.tmp 18) (.tmp 19) (by rfl) w5.heap.size _ [] ks (KyA.own_fresh w5) ak ck (HK5.out.below (HW0.out _)) HKn.out (by have h := (HW0.out (.cells #[] 71)).size; exact h) (by simp; omega) (by rfl) (by rfl) ?_; intro ar6 cr6 w6 h6 b6; have hS6 := HS.out w6 ((HW0.out _).trans b6); have hF6 := keys_fs h6; clear h6 b6)
      | (go_at_call 39; refine (KCk.out w6 ar6 cr6 hS6.2 hF6).mono ?_; rintro e w7 ⟨rfl, hb7⟩; have hS7 := HS.out w7 (hS6.2.trans (hb7.mono hS6.2.size))))
  have hb57 := hS7.2
  have HB7 := Lib.hid (HB5.out.trans (hb57.mono HB5.out.size))
  have HX7 := Lib.hid (HX5.out.below hb57)
  have HQ7 := Lib.hid (HQ5.out.below hb57)
  have HF7 := Lib.hid (HF5.out.below hb57)
  have HC7 := Lib.hid (HC5.out.below hb57)
  clear hS6 hF6 hS7 hb7 hb57 hS0 HS KCk HW0 q0 q1 q2 q3 HX5 HQ5 HF5 HC5 HK5
  obtain ⟨x0, x1, x2, x3, -, -, -, -⟩ := HX7.out.cells
  have KR := Lib.hid (RcC.rcheck m t bd fs ks cb cf ck now w7 (HB.out.below HB7.out) (HF.out.below HB7.out) (HK.out.below HB7.out) (by omega) (by omega) (fun q hq => by have := HKV.out q hq; omega) (fun q hq => by have := HFV.out q hq; omega) (by omega) (by omega) (by omega) n0 n1)
  go_wp2_with fail
  refine KR.out.mono ?_
  rintro e w8 ⟨rfl, hb8⟩
  rw [HV2.out]
  have HB8 := Lib.hid (HB7.out.trans (hb8.mono HB7.out.size))
  have HX8 := Lib.hid (HX7.out.below hb8)
  have HQ8 := Lib.hid (HQ7.out.below hb8)
  have HF8 := Lib.hid (HF7.out.below hb8)
  have HC8 := Lib.hid (HC7.out.below hb8)
  clear x0 x1 x2 x3 KR hb8 HX7 HQ7 HF7 HC7
  go_wp2_with fail
  refine (HN1.out w8 (HA.out.below HB8.out)).mono ?_
  rintro e w9 ⟨rfl, hb9⟩
  have HB9 := Lib.hid (HB8.out.trans (hb9.mono HB8.out.size))
  have HX9 := Lib.hid (HX8.out.below hb9)
  have HQ9 := Lib.hid (HQ8.out.below hb9)
  have HF9 := Lib.hid (HF8.out.below hb9)
  have HC9 := Lib.hid (HC8.out.below hb9)
  clear hb9 HX8 HQ8 HF8 HC8
  obtain ⟨x0, x1, x2, x3, -, -, -, -⟩ := HX9.out.cells
  obtain ⟨q0, q1, q2, q3, -, -, -, -⟩ := HQ9.out.cells
  go_wp2_with fail
  refine (HtU.same m t m t bd bd fs fs c2 cf c3 cb w9 HF9.out (HF.out.below HB9.out) HC9.out (HB.out.below HB9.out) (by omega)).mono ?_
  rintro e w10 ⟨rfl, hb10⟩
  rw [HtU.eqR_yes]
  go_wp2_with fail
  go_ret
  exact ⟨rfl, HB9.out.trans (hb10.mono HB9.out.size)⟩
end Go.Proofs.YtidflagmdabfaaaGreatDoor.SgT
