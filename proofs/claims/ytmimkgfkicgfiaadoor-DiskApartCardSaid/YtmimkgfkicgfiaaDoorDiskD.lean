/-
  The walk of package disk's Rename.
-/
import Derived.Test.YtmimkgfkicgfiaaDoorDiskC
namespace Go.Proofs.YtmimkgfkicgfiaaDoor.DiskD
open Go.RowKit Go.Proofs.YtmimkgfkicgfiaaDoor Go.Proofs.YtmimkgfkicgfiaaDoor.Dw Go.Proofs.YtmimkgfkicgfiaaDoor.DiskB Go.Proofs.YtmimkgfkicgfiaaDoor.DiskC

set_option maxHeartbeats 2000000 in
set_option maxRecDepth 100000 in
theorem rename_bad1 (d : Value) (n t : ByteArray) (w : World) {aN aF aG : Addr} (he : Errs w aN aF aG) (hg : DiskA.gd n.data.toList = false) :
    Calls Tryd.prog 40 #[d, .string n, .string t] w fun e w' => e = .returned (ev aN) ∧ w = w' := by
  have hn := he.name
  go_enter Tryd.func40, Tryd.ntmps40
  go_wp2_with (go_at_call 72; refine (DiskA.good _ _).mono ?_; rintro e w' ⟨rfl, rfl⟩)
  go_ret
  exact ⟨rfl, rfl⟩
set_option maxHeartbeats 2000000 in
set_option maxRecDepth 100000 in
theorem rename_bad2 (d : Value) (n t : ByteArray) (w : World) {aN aF aG : Addr} (he : Errs w aN aF aG) (hg : DiskA.gd n.data.toList = true) (hg2 : DiskA.gd t.data.toList = false) :
    Calls Tryd.prog 40 #[d, .string n, .string t] w fun e w' => e = .returned (ev aN) ∧ w = w' := by
  have hn := he.name
  go_enter Tryd.func40, Tryd.ntmps40
  go_wp2_with (go_at_call 72; refine (DiskA.good _ _).mono ?_; rintro e w' ⟨rfl, rfl⟩)
  go_ret
  exact ⟨rfl, rfl⟩
set_option maxHeartbeats 2000000 in
set_option maxRecDepth 100000 in
theorem rename_no {lo d mb : Nat} {M : Dp.Files} {full : Bool} {lost : Int} (n t : ByteArray) (w : World) {aN aF aG : Addr} (hd : Drive lo d mb w M full lost) (he : Errs w aN aF aG) (hs : n.size ≤ maxLen) (hg : DiskA.gd n.data.toList = true) (hg2 : DiskA.gd t.data.toList = true) (hno : askE M n.data.toList ≠ .ok) :
    Calls Tryd.prog 40 #[.pointer (some ⟨d, 0, none⟩), .string n, .string t] w fun e w' => e = .returned (erv aN aF aG (askE M n.data.toList)) ∧ Below w.heap.size w w' := by
  go_enter Tryd.func40, Tryd.ntmps40
  go_wp2_with (first
    | (go_at_call 72; refine (DiskA.good _ _).mono ?_; rintro e w' ⟨rfl, rfl⟩)
    | (go_at_call 74; refine (find_err n _ hd he hs hno).mono ?_; rintro e w1 ⟨⟨x, hx, rfl⟩, hb⟩; have HX := Lib.hid hx; clear hx))
  go_ret
  exact ⟨by rw [HX.out]; rfl, hb.alloc (hb.size) _⟩
set_option maxHeartbeats 2000000 in
set_option maxRecDepth 100000 in
theorem rename_ok {d mb m : Nat} {D : DataW Value} (n t : ByteArray) (a1 : Option Addr) (n1 c1 : Nat) (a2 : Option Addr) (n2 c2 : Nat) (k : Bool) (w : World)
    (hdl : d < w.heap.size) (c0 : w.cell? ⟨d, 0, none⟩ = some (.map (some mb))) (ho : w.ownsMap Tryd.prog 9 rd mb m D) (hL : Looks D n.data.toList (.agg #[.slice a1 n1 c1, .slice a2 n2 c2, .bool k]) true) (hne : d ≠ mb)
    (hs : n.size ≤ maxLen) (hst : t.size ≤ maxLen) (hg : DiskA.gd n.data.toList = true) (hg2 : DiskA.gd t.data.toList = true) (hmx : m < 4294967296) :
    Calls Tryd.prog 40 #[.pointer (some ⟨d, 0, none⟩), .string n, .string t] w fun e w' => e = .returned .nilIface ∧
      w'.ownsMap Tryd.prog 9 rd mb (m + 1) ((D.del (.string n.data.toList)).put (.string t.data.toList) (.held (.agg #[.slice a1 n1 c1, .slice a2 n2 c2, .bool k]))) ∧ Keep [mb] w w' := by
  have hml := ho.lt
  go_enter Tryd.func40, Tryd.ntmps40
  go_wp2_with (first
    | (go_at_call 72; refine (DiskA.good _ _).mono ?_; rintro e w' ⟨rfl, rfl⟩)
    | (go_at_call 74; refine (find_hit n a1 n1 c1 a2 n2 c2 k _ ⟨hdl, c0, _, D, ho, hL⟩ hs hg).mono ?_; rintro e w1 ⟨rfl, hb⟩; have c1' := (hb.cell (p := ⟨d, 0, none⟩) hdl).trans c0; have hz := hb.size; have hd1 : d < w1.heap.size := (by omega); have hm1 : mb < w1.heap.size := (by omega))
    | (at_delete; refine wpList_drop rfl _ _ rfl rfl ((ownsMap_below ho hb).alloc _) n rfl hs ?_; intro w2 ho2 ht2; have K2 := Keep.of_turned ht2; have g0 := (K2.cell (p := ⟨d, 0, none⟩) (by simp; omega) (by simp; exact hne)).trans ((World.cell?_alloc_lt w1 _ _ hd1).trans c1'); obtain ⟨q0, q1, q2⟩ := three_turned hm1 ht2))
  refine region_tail 6 (by kernel_rfl) ?_
  simp only [List.take_succ_cons, List.take_zero, List.drop_succ_cons, List.drop_zero]
  repeat still_step
  refine wpStill_nil ?_
  go_wp2_with (at_mapUpdate; refine wpList_store rfl _ _ _ rfl rfl ho2.drew hmx t rfl hst _ rfl ?_; intro w3 ho3 ht3)
  go_ret
  exact ⟨rfl, ho3, ((((Keep.of_below hb _).alloc _).trans K2).drew).trans (Keep.of_turned ht3)⟩

/-- Rename -/
theorem rename {lo d mb : Nat} {M : Dp.Files} {full : Bool} {lost : Int} (n t : ByteArray) (w : World) {aN aF aG : Addr} (hd : Drive lo d mb w M full lost) (he : Errs w aN aF aG) (hs : n.size ≤ maxLen) (hst : t.size ≤ maxLen) (hmx : M.length < 4294967296) :
    Calls Tryd.prog 40 #[.pointer (some ⟨d, 0, none⟩), .string n, .string t] w fun e w' => e = .returned (erv aN aF aG (reE M n.data.toList t.data.toList)) ∧ Drive lo d mb w' (reM M n.data.toList t.data.toList) full lost ∧ Keep [mb] w w' := by
  cases hg : DiskA.gd n.data.toList
  · have h1 : reE M n.data.toList t.data.toList = .name := by simp [reE, hg]
    refine (rename_bad1 _ n t w he hg).mono ?_
    rintro e w' ⟨rfl, rfl⟩
    exact ⟨by rw [h1]; rfl, by simpa [reM, h1] using hd, Keep.refl _ _⟩
  cases hg2 : DiskA.gd t.data.toList
  · have h1 : reE M n.data.toList t.data.toList = .name := by simp [reE, hg2]
    refine (rename_bad2 _ n t w he hg hg2).mono ?_
    rintro e w' ⟨rfl, rfl⟩
    exact ⟨by rw [h1]; rfl, by simpa [reM, h1] using hd, Keep.refl _ _⟩
  have h1 : reE M n.data.toList t.data.toList = askE M n.data.toList := by simp [reE, hg, hg2]
  by_cases ha : askE M n.data.toList = .ok
  · obtain ⟨_, hk⟩ := ask_ok ha
    obtain ⟨D, ho, ht⟩ := hd.own
    obtain ⟨a1, c1, a2, c2, hL, hb1, hb2⟩ := looks_hit ht hk
    refine (rename_ok n t a1 _ c1 a2 _ c2 _ w hd.names_lt.1 hd.cell0 ho hL hd.dmb hs hst hg hg2 hmx).mono ?_
    rintro e w' ⟨rfl, ho', hkp⟩
    refine ⟨by rw [h1, ha]; rfl, ?_, hkp⟩
    rw [reM, h1, if_pos ha]
    have hlo : ∀ k ∈ [mb], k < lo := by simp; exact hd.mlo
    exact hd.turned hkp ho' (((ht.mono fun v f hf => hf.keep hkp hlo).del _).put ⟨a1, c1, a2, c2, rfl, hb1.keep hkp hlo, hb2.keep hkp hlo⟩)
  · refine (rename_no n t w hd he hs hg hg2 ha).mono ?_
    rintro e w' ⟨rfl, hb⟩
    exact ⟨by rw [h1], by simpa [reM, h1, ha] using hd.below hb, Keep.of_below hb _⟩
end Go.Proofs.YtmimkgfkicgfiaaDoor.DiskD
