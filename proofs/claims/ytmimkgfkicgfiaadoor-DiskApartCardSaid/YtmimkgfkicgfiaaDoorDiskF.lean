/-
  The walk of package disk's Crash.
-/
import Derived.Test.YtmimkgfkicgfiaaDoorDiskE
namespace Go.Proofs.YtmimkgfkicgfiaaDoor.DiskF
open Go.RowKit Go.Proofs.YtmimkgfkicgfiaaDoor Go.Proofs.YtmimkgfkicgfiaaDoor.Dw Go.Proofs.YtmimkgfkicgfiaaDoor.DiskB Go.Proofs.YtmimkgfkicgfiaaDoor.DiskC

theorem crash_len (A : Dp.Files) : (Dp.crash A).length ≤ A.length := by
  induction A with
  | nil => exact Nat.le_refl _
  | cons p A ih => rw [Dp.crash]; split <;> simp <;> omega

set_option maxHeartbeats 4000000 in
set_option maxRecDepth 100000 in
/-- Crash -/
theorem crash {lo d mb : Nat} {M : Dp.Files} {full : Bool} {lost : Int} (w : World) (hd : Drive lo d mb w M full lost) (hmx : M.length < 4294967295) (hnl : ∀ p ∈ M, p.1.length ≤ maxLen) :
    Calls Tryd.prog 38 #[.pointer (some ⟨d, 0, none⟩)] w fun e w' => e = .returned (.tuple #[]) ∧ Drive lo d mb w' (Dp.crash M) full lost ∧ Keep [mb] w w' := by
  obtain ⟨D0, _, ht0⟩ := hd.own
  have hup := Lib.hid ht0.up
  have hml := hd.names_lt.2
  have hdl := hd.names_lt.1
  go_enter Tryd.func38, Tryd.ntmps38
  go_wp2_with (go_at_call 75; refine (DiskE.names _ hd (by omega)).mono ?_; rintro e w1 ⟨⟨a, c, rfl, hns⟩, hb⟩)
  have HNL := Lib.hid hnl; clear hnl
  have hd1 := hd.below hb
  go_loopg [8] M.length (fun g i wr => ∃ A r, M = A ++ r ∧ r.length = g ∧ i = .int .i64 (A.length : Int) ∧ Drive lo d mb wr (Dp.crash A ++ r) full lost ∧ Ns w.heap.size wr a (Dp.names M) ∧ Keep [mb] w1 wr)
  case atStart => exact ⟨[], M, rfl, rfl, rfl, hd1, hns, Keep.refl _ _⟩
  case round =>
    obtain ⟨A, r, hM, hrl, rfl, hdr, hnr, hkr⟩ := hrel
    have HM := Lib.hid hM
    have HR := Lib.hid hrl
    have hlen : M.length = A.length + r.length := by rw [hM]; simp
    clear hM hrl
    cases r with
    | nil =>
      have hlt : ¬ ((A.length : Int) < (M.length : Int)) := by simp at hlen; omega
      have HL := Lib.hid hlen; clear hlen
      go_wp2
      go_end0
      have hA : M = A := by simpa using HM.out
      exact ⟨rfl, by simpa [hA] using hdr, (Keep.of_below hb _).trans hkr⟩
    | cons p r =>
      have hlt : A.length < M.length := by simp at hlen; omega
      have HL := Lib.hid hlen; clear hlen
      obtain ⟨nm, f⟩ := p
      obtain ⟨bt, sf, kp⟩ := f
      have hup' := hup.out
      rw [HM.out] at hup'
      obtain ⟨hlk, hput, hdel⟩ := Dp.crash_round hup'
      clear hup'
      simp only at hlk hput hdel
      have hnm : nm.length ≤ maxLen := HNL.out (nm, ⟨bt, sf, kp⟩) (by rw [HM.out]; simp)
      rcases hnr with h0 | ⟨b, o, rfl, hb1, hb2, hc⟩
      · have : (Dp.names M).length = M.length := by simp [Dp.names]
        rw [h0] at this
        simp at this
        omega
      have hcell := hc A.length nm (by rw [HM.out]; simp [Dp.names])
      have HC := Lib.hid hc; clear hc
      obtain ⟨D, ho, ht⟩ := hdr.own
      obtain ⟨a1, c1, a2, c2, hL, hbs1, hbs2⟩ := looks_hit ht hlk
      have HBS := Lib.hid hbs2; clear hbs1 hbs2
      have hsz : (⟨nm.toArray⟩ : ByteArray).size ≤ maxLen := by rw [Com.size_mk]; exact hnm
      have hL' : Looks D (⟨nm.toArray⟩ : ByteArray).data.toList (.agg #[.slice a1 bt.length c1, .slice a2 sf.length c2, .bool kp]) true := hL
      clear hL
      have c0 := hdr.cell0
      have hdr1 := hdr.names_lt.1
      have hmr1 := hdr.names_lt.2
      have hne := hdr.dmb
      have HLK := Lib.hid hlk; clear hlk
      have hix : ((A.length : Int)).toNat = A.length := by simp
      cases kp
      · have HDL := Lib.hid (hdel rfl)
        clear hput hdel
        go_wp2_with (first
          | (at_lookup; refine wpList_look1 rfl _ _ rfl rfl ho ⟨nm.toArray⟩ rfl hsz hL' ?_)
          | (at_delete; refine wpList_drop rfl _ _ rfl rfl (ho.alloc _) ⟨nm.toArray⟩ rfl hsz ?_; intro w2 ho2 ht2))
        have hlo : ∀ k ∈ [mb], k < lo := by simp; exact hdr.mlo
        have hkp : Keep [mb] wr w2 := ((Keep.refl _ wr).alloc _).trans (Keep.of_turned ht2)
        have hdr2 := hdr.turned hkp ho2 ((ht.mono fun v f hf => hf.keep hkp hlo).del nm)
        have hns2 : Ns w.heap.size w2 (some ⟨b, o, none⟩) (Dp.names M) := Ns.keep (.inr ⟨b, o, rfl, hb1, hb2, HC.out⟩) hkp (by simp; exact hml)
        rw [HDL.out] at hdr2
        go_roundg (gk - 1)
        case measure => have := HR.out; simp at this; omega
        case rel => exact ⟨A ++ [(nm, ⟨bt, sf, false⟩)], r, by rw [HM.out]; simp, by have := HR.out; simp at this; omega, by simp, hdr2, hns2, hkr.trans hkp⟩
      · have HPT := Lib.hid (hput rfl)
        clear hdel hput
        go_wp2_with (at_lookup; refine wpList_look1 rfl _ _ rfl rfl ho ⟨nm.toArray⟩ rfl hsz hL' ?_)
        refine region_tail 6 (by kernel_rfl) ?_
        simp only [List.take_succ_cons, List.take_zero, List.drop_succ_cons, List.drop_zero]
        repeat still_step
        refine wpStill_nil ?_
        have hmlen : (Dp.crash A ++ (nm, Dp.File.mk bt sf true) :: r).length < 4294967296 := by
          have h2 := crash_len A
          have h3 := HL.out
          simp only [List.length_append, List.length_cons] at h2 h3 ⊢
          omega
        have HML := Lib.hid hmlen; clear hmlen
        go_wp2_with (at_mapUpdate; refine wpList_store rfl _ _ _ rfl rfl ((ho.alloc _).drew) HML.out ⟨nm.toArray⟩ rfl hsz _ rfl ?_; intro w2 ho2 ht2)
        have hlo : ∀ k ∈ [mb], k < lo := by simp; exact hdr.mlo
        have hkp : Keep [mb] wr w2 := (((Keep.refl _ wr).alloc _).drew).trans (Keep.of_turned ht2)
        have hbs := HBS.out.keep hkp hlo
        have hdr2 := hdr.turned hkp ho2 ((ht.mono fun v f hf => hf.keep hkp hlo).put (n := nm) (f := ⟨sf, sf, true⟩) ⟨a2, c2, a2, c2, rfl, hbs, hbs⟩)
        have hns2 : Ns w.heap.size w2 (some ⟨b, o, none⟩) (Dp.names M) := Ns.keep (.inr ⟨b, o, rfl, hb1, hb2, HC.out⟩) hkp (by simp; exact hml)
        rw [HPT.out] at hdr2
        go_roundg (gk - 1)
        case measure => have := HR.out; simp at this; omega
        case rel => exact ⟨A ++ [(nm, ⟨bt, sf, true⟩)], r, by rw [HM.out]; simp, by have := HR.out; simp at this; omega, by simp, hdr2, hns2, hkr.trans hkp⟩
end Go.Proofs.YtmimkgfkicgfiaaDoor.DiskF
