/-
  The walks of package disk's Sync, Delete, Read, Rename, Fill.
-/
import Derived.Test.YtmimkgfkicgfiaaDoorDiskB
namespace Go.Proofs.YtmimkgfkicgfiaaDoor.DiskC
open Go.RowKit Go.Proofs.YtmimkgfkicgfiaaDoor Go.Proofs.YtmimkgfkicgfiaaDoor.Dw Go.Proofs.YtmimkgfkicgfiaaDoor.DiskB

/-- a file's box, behind a turn of the map -/
theorem three_turned {w1 w2 : World} {v0 v1 v2 : Value} {t : TypeId} {mb : Nat} (hm : mb < w1.heap.size) (ht : (w1.alloc (.cells #[v0, v1, v2] t)).mapTurned w2 mb) :
    w2.cell? ⟨w1.heap.size, 0, none⟩ = some v0 ∧ w2.cell? ⟨w1.heap.size, 1, none⟩ = some v1 ∧ w2.cell? ⟨w1.heap.size, 2, none⟩ = some v2 := by
  have h : w2.heap[w1.heap.size]? = some (.cells #[v0, v1, v2] t (0, 0)) := ((Keep.of_turned ht).block _ (by simp) (by simp; omega)).trans (heap_alloc_new _ _)
  refine ⟨?_, ?_, ?_⟩
  all_goals (rw [Lib.cell_of_heap h]; rfl)

theorem find_err {lo d mb : Nat} {M : Dp.Files} {full : Bool} {lost : Int} (n : ByteArray) (w : World) {aN aF aG : Addr} (hd : Drive lo d mb w M full lost) (he : Errs w aN aF aG) (hs : n.size ≤ maxLen) (hno : askE M n.data.toList ≠ .ok) :
    Calls Tryd.prog 74 #[.pointer (some ⟨d, 0, none⟩), .string n] w fun e w' => (∃ x : Addr, erv aN aF aG (askE M n.data.toList) = ev x ∧ e = .returned (.tuple #[noFileV, ev x])) ∧ Below w.heap.size w w' := by
  cases hg : DiskA.gd n.data.toList
  · refine (find_bad _ n w he hg).mono ?_
    rintro e w' ⟨rfl, hb⟩
    exact ⟨⟨aN, by simp [askE, hg, erv], rfl⟩, hb⟩
  · cases hk : Dp.look M n.data.toList with
    | none =>
      refine (find_gone n w hd he hs hg hk).mono ?_
      rintro e w' ⟨rfl, hb⟩
      exact ⟨⟨aG, by simp [askE, hg, hk, erv], rfl⟩, hb⟩
    | some f => exact absurd (by simp [askE, hg, hk]) hno
theorem ask_ok {M : Dp.Files} {n : List UInt8} (h : askE M n = .ok) : DiskA.gd n = true ∧ Dp.look M n = some (old M n) := by
  unfold askE at h
  split at h
  · rename_i hg
    split at h
    · rename_i hk
      obtain ⟨f, hf⟩ := Option.isSome_iff_exists.1 hk
      exact ⟨hg, by simp [old, hf]⟩
    · cases h
  · cases h

set_option maxHeartbeats 2000000 in
set_option maxRecDepth 100000 in
theorem sync_no {lo d mb : Nat} {M : Dp.Files} {full : Bool} {lost : Int} (n : ByteArray) (w : World) {aN aF aG : Addr} (hd : Drive lo d mb w M full lost) (he : Errs w aN aF aG) (hs : n.size ≤ maxLen) (hno : askE M n.data.toList ≠ .ok) :
    Calls Tryd.prog 36 #[.pointer (some ⟨d, 0, none⟩), .string n] w fun e w' => e = .returned (erv aN aF aG (askE M n.data.toList)) ∧ Below w.heap.size w w' := by
  go_enter Tryd.func36, Tryd.ntmps36
  go_wp2_with (go_at_call 74; refine (find_err n _ hd he hs hno).mono ?_; rintro e w1 ⟨⟨x, hx, rfl⟩, hb⟩; have HX := Lib.hid hx; clear hx)
  go_ret
  exact ⟨by rw [HX.out]; rfl, hb.alloc (hb.size) _⟩

set_option maxHeartbeats 2000000 in
set_option maxRecDepth 100000 in
theorem sync_full {d mb : Nat} (n : ByteArray) (a1 : Option Addr) (n1 c1 : Nat) (a2 : Option Addr) (n2 c2 : Nat) (k : Bool) (w : World) {aN aF aG : Addr} (he : Errs w aN aF aG) (ha : At d mb w n.data.toList (.agg #[.slice a1 n1 c1, .slice a2 n2 c2, .bool k])) (f0 : w.cell? ⟨d, 1, none⟩ = some (.bool true)) (hs : n.size ≤ maxLen) (hg : DiskA.gd n.data.toList = true) :
    Calls Tryd.prog 36 #[.pointer (some ⟨d, 0, none⟩), .string n] w fun e w' => e = .returned (ev aF) ∧ Below w.heap.size w w' := by
  have hdl := ha.lt
  go_enter Tryd.func36, Tryd.ntmps36
  go_wp2_with (go_at_call 74; refine (find_hit n a1 n1 c1 a2 n2 c2 k _ ha hs hg).mono ?_; rintro e w1 ⟨rfl, hb⟩; have f1 := (hb.cell (p := ⟨d, 1, none⟩) hdl).trans f0; have hz := hb.size; have hd1 : d < w1.heap.size := (by omega); have e1 := (he.below hb).full; have el := World.block_lt_of_cell? w1 _ e1; simp only at el)
  go_ret
  exact ⟨rfl, hb.alloc hb.size _⟩

set_option maxHeartbeats 2000000 in
set_option maxRecDepth 100000 in
theorem sync_ok {d mb m : Nat} {D : DataW Value} (n : ByteArray) (a1 : Option Addr) (n1 c1 : Nat) (a2 : Option Addr) (n2 c2 : Nat) (k : Bool) (w : World)
    (hdl : d < w.heap.size) (c0 : w.cell? ⟨d, 0, none⟩ = some (.map (some mb))) (f0 : w.cell? ⟨d, 1, none⟩ = some (.bool false)) (ho : w.ownsMap Tryd.prog 9 rd mb m D) (hL : Looks D n.data.toList (.agg #[.slice a1 n1 c1, .slice a2 n2 c2, .bool k]) true)
    (hs : n.size ≤ maxLen) (hg : DiskA.gd n.data.toList = true) (hmx : m < 4294967296) :
    Calls Tryd.prog 36 #[.pointer (some ⟨d, 0, none⟩), .string n] w fun e w' => e = .returned .nilIface ∧
      w'.ownsMap Tryd.prog 9 rd mb (m + 1) (D.put (.string n.data.toList) (.held (.agg #[.slice a1 n1 c1, .slice a1 n1 c1, .bool true]))) ∧ Keep [mb] w w' := by
  have hml := ho.lt
  go_enter Tryd.func36, Tryd.ntmps36
  go_wp2_with (go_at_call 74; refine (find_hit n a1 n1 c1 a2 n2 c2 k _ ⟨hdl, c0, _, D, ho, hL⟩ hs hg).mono ?_; rintro e w1 ⟨rfl, hb⟩; have f1 := (hb.cell (p := ⟨d, 1, none⟩) hdl).trans f0; have c1' := (hb.cell (p := ⟨d, 0, none⟩) hdl).trans c0; have hz := hb.size; have hd1 : d < w1.heap.size := (by omega))
  refine region_tail 6 (by kernel_rfl) ?_
  simp only [List.take_succ_cons, List.take_zero, List.drop_succ_cons, List.drop_zero]
  repeat still_step
  refine wpStill_nil ?_
  go_wp2_with (at_mapUpdate; refine wpList_store rfl _ _ _ rfl rfl (((ownsMap_below ho hb).alloc _).drew) hmx n rfl hs _ rfl ?_; intro w2 ho2 ht2)
  go_ret
  exact ⟨rfl, ho2, (((Keep.of_below hb _).alloc _).drew).trans (Keep.of_turned ht2)⟩

/-- Sync -/
theorem sync {lo d mb : Nat} {M : Dp.Files} {full : Bool} {lost : Int} (n : ByteArray) (w : World) {aN aF aG : Addr} (hd : Drive lo d mb w M full lost) (he : Errs w aN aF aG) (hs : n.size ≤ maxLen) (hmx : M.length < 4294967296) :
    Calls Tryd.prog 36 #[.pointer (some ⟨d, 0, none⟩), .string n] w fun e w' => e = .returned (erv aN aF aG (syE M full n.data.toList)) ∧ Drive lo d mb w' (syM M full n.data.toList) full lost ∧ Keep [mb] w w' := by
  by_cases ha : askE M n.data.toList = .ok
  · obtain ⟨hg, hk⟩ := ask_ok ha
    cases full
    · have h1 : syE M false n.data.toList = .ok := by simp [syE, ha]
      obtain ⟨D, ho, ht⟩ := hd.own
      obtain ⟨a1, c1, a2, c2, hL, hb1, hb2⟩ := looks_hit ht hk
      refine (sync_ok n a1 _ c1 a2 _ c2 _ w hd.names_lt.1 hd.cell0 hd.cell1 ho hL hs hg hmx).mono ?_
      rintro e w' ⟨rfl, ho', hkp⟩
      refine ⟨by rw [h1]; rfl, ?_, hkp⟩
      rw [syM, if_pos h1]
      have hlo : ∀ k ∈ [mb], k < lo := by simp; exact hd.mlo
      exact hd.turned hkp ho' ((ht.mono fun v f hf => hf.keep hkp hlo).put ⟨a1, c1, a1, c1, rfl, hb1.keep hkp hlo, hb1.keep hkp hlo⟩)
    · have h1 : syE M true n.data.toList = .full := by simp [syE, ha]
      obtain ⟨a1, c1, a2, c2, hA, _⟩ := at_of hd hk
      refine (sync_full n a1 _ c1 a2 _ c2 _ w he hA hd.cell1 hs hg).mono ?_
      rintro e w' ⟨rfl, hb⟩
      exact ⟨by rw [h1]; rfl, by simpa [syM, h1] using hd.below hb, Keep.of_below hb _⟩
  · have h1 : syE M full n.data.toList = askE M n.data.toList := by simp [syE, ha]
    have h2 : syE M full n.data.toList ≠ .ok := by rw [h1]; exact ha
    refine (sync_no n w hd he hs ha).mono ?_
    rintro e w' ⟨rfl, hb⟩
    exact ⟨by rw [h1], by simpa [syM, h2] using hd.below hb, Keep.of_below hb _⟩

set_option maxHeartbeats 2000000 in
set_option maxRecDepth 100000 in
theorem delete_no {lo d mb : Nat} {M : Dp.Files} {full : Bool} {lost : Int} (n : ByteArray) (w : World) {aN aF aG : Addr} (hd : Drive lo d mb w M full lost) (he : Errs w aN aF aG) (hs : n.size ≤ maxLen) (hno : askE M n.data.toList ≠ .ok) :
    Calls Tryd.prog 37 #[.pointer (some ⟨d, 0, none⟩), .string n] w fun e w' => e = .returned (erv aN aF aG (askE M n.data.toList)) ∧ Below w.heap.size w w' := by
  go_enter Tryd.func37, Tryd.ntmps37
  go_wp2_with (go_at_call 74; refine (find_err n _ hd he hs hno).mono ?_; rintro e w1 ⟨⟨x, hx, rfl⟩, hb⟩; have HX := Lib.hid hx; clear hx)
  go_ret
  exact ⟨by rw [HX.out]; rfl, hb.alloc (hb.size) _⟩

set_option maxHeartbeats 2000000 in
set_option maxRecDepth 100000 in
theorem delete_ok {d mb m : Nat} {D : DataW Value} (n : ByteArray) (a1 : Option Addr) (n1 c1 : Nat) (a2 : Option Addr) (n2 c2 : Nat) (k : Bool) (w : World)
    (hdl : d < w.heap.size) (c0 : w.cell? ⟨d, 0, none⟩ = some (.map (some mb))) (ho : w.ownsMap Tryd.prog 9 rd mb m D) (hL : Looks D n.data.toList (.agg #[.slice a1 n1 c1, .slice a2 n2 c2, .bool k]) true)
    (hs : n.size ≤ maxLen) (hg : DiskA.gd n.data.toList = true) :
    Calls Tryd.prog 37 #[.pointer (some ⟨d, 0, none⟩), .string n] w fun e w' => e = .returned .nilIface ∧
      w'.ownsMap Tryd.prog 9 rd mb m (D.del (.string n.data.toList)) ∧ Keep [mb] w w' := by
  go_enter Tryd.func37, Tryd.ntmps37
  go_wp2_with (first
    | (go_at_call 74; refine (find_hit n a1 n1 c1 a2 n2 c2 k _ ⟨hdl, c0, _, D, ho, hL⟩ hs hg).mono ?_; rintro e w1 ⟨rfl, hb⟩; have c1' := (hb.cell (p := ⟨d, 0, none⟩) hdl).trans c0; have hz := hb.size; have hd1 : d < w1.heap.size := (by omega))
    | (at_delete; refine wpList_drop rfl _ _ rfl rfl ((ownsMap_below ho hb).alloc _) n rfl hs ?_; intro w2 ho2 ht2))
  go_ret
  exact ⟨rfl, ho2, ((Keep.of_below hb _).alloc _).trans (Keep.of_turned ht2)⟩

/-- Delete -/
theorem delete {lo d mb : Nat} {M : Dp.Files} {full : Bool} {lost : Int} (n : ByteArray) (w : World) {aN aF aG : Addr} (hd : Drive lo d mb w M full lost) (he : Errs w aN aF aG) (hs : n.size ≤ maxLen) :
    Calls Tryd.prog 37 #[.pointer (some ⟨d, 0, none⟩), .string n] w fun e w' => e = .returned (erv aN aF aG (askE M n.data.toList)) ∧ Drive lo d mb w' (deM M n.data.toList) full lost ∧ Keep [mb] w w' := by
  by_cases ha : askE M n.data.toList = .ok
  · obtain ⟨hg, hk⟩ := ask_ok ha
    obtain ⟨D, ho, ht⟩ := hd.own
    obtain ⟨a1, c1, a2, c2, hL, hb1, hb2⟩ := looks_hit ht hk
    refine (delete_ok n a1 _ c1 a2 _ c2 _ w hd.names_lt.1 hd.cell0 ho hL hs hg).mono ?_
    rintro e w' ⟨rfl, ho', hkp⟩
    refine ⟨by rw [ha]; rfl, ?_, hkp⟩
    rw [deM, if_pos ha]
    have hlo : ∀ k ∈ [mb], k < lo := by simp; exact hd.mlo
    exact hd.turned hkp ho' ((ht.mono fun v f hf => hf.keep hkp hlo).del _)
  · refine (delete_no n w hd he hs ha).mono ?_
    rintro e w' ⟨rfl, hb⟩
    exact ⟨rfl, by simpa [deM, ha] using hd.below hb, Keep.of_below hb _⟩

set_option maxHeartbeats 2000000 in
set_option maxRecDepth 100000 in
theorem read_no {lo d mb : Nat} {M : Dp.Files} {full : Bool} {lost : Int} (n : ByteArray) (w : World) {aN aF aG : Addr} (hd : Drive lo d mb w M full lost) (he : Errs w aN aF aG) (hs : n.size ≤ maxLen) (hno : askE M n.data.toList ≠ .ok) :
    Calls Tryd.prog 39 #[.pointer (some ⟨d, 0, none⟩), .string n] w fun e w' => e = .returned (.tuple #[.slice none 0 0, erv aN aF aG (askE M n.data.toList)]) ∧ Below w.heap.size w w' := by
  go_enter Tryd.func39, Tryd.ntmps39
  go_wp2_with (first
    | (go_at_call 74; refine (find_err n _ hd he hs hno).mono ?_; rintro e w1 ⟨⟨x, hx, rfl⟩, hb⟩; have HX := Lib.hid hx; clear hx)
    | (go_at_call 73; refine (DiskA.clone_nil _).mono ?_; rintro e w' ⟨rfl, rfl⟩))
  go_ret2
  exact ⟨by rw [HX.out]; rfl, hb.alloc (hb.size) _⟩

set_option maxHeartbeats 2000000 in
set_option maxRecDepth 100000 in
theorem read_ok {d mb : Nat} (n : ByteArray) (a1 : Option Addr) (l : List UInt8) (c1 : Nat) (a2 : Option Addr) (n2 c2 : Nat) (k : Bool) (w : World) (ha : At d mb w n.data.toList (.agg #[.slice a1 l.length c1, .slice a2 n2 c2, .bool k])) (hs : n.size ≤ maxLen) (hg : DiskA.gd n.data.toList = true)
    (hl : l.length ≤ 140737488351232) (hbs : Bs 0 w a1 l c1) :
    Calls Tryd.prog 39 #[.pointer (some ⟨d, 0, none⟩), .string n] w fun e w' => (∃ a c, e = .returned (.tuple #[.slice a l.length c, .nilIface]) ∧ Bs w.heap.size w' a l c) ∧ Below w.heap.size w w' := by
  go_enter Tryd.func39, Tryd.ntmps39
  go_wp2_with (first
    | (go_at_call 74; refine (find_hit n a1 l.length c1 a2 n2 c2 k _ ha hs hg).mono ?_; rintro e w1 ⟨rfl, hb⟩)
    | (go_at_call 73; refine (DiskA.clone a1 l c1 _ hl ((hbs.below hb).below ((Below.refl _ _).alloc (Nat.le_refl _) _))).mono ?_; rintro e w2 ⟨⟨a', c', rfl, hbs2⟩, hb2⟩))
  go_ret2
  have hz := hb.size
  exact ⟨⟨a', c', rfl, hbs2.lower (by simp; omega)⟩, (hb.alloc hb.size _).trans (hb2.mono (by simp; omega))⟩

/-- Read -/
theorem read {lo d mb : Nat} {M : Dp.Files} {full : Bool} {lost : Int} (n : ByteArray) (w : World) {aN aF aG : Addr} (hd : Drive lo d mb w M full lost) (he : Errs w aN aF aG) (hs : n.size ≤ maxLen) (hl : ∀ p ∈ M, p.2.bytes.length ≤ 140737488351232) :
    Calls Tryd.prog 39 #[.pointer (some ⟨d, 0, none⟩), .string n] w fun e w' => (∃ a c, e = .returned (.tuple #[.slice a (rdL M n.data.toList).length c, erv aN aF aG (askE M n.data.toList)]) ∧ Bs w.heap.size w' a (rdL M n.data.toList) c) ∧ Below w.heap.size w w' := by
  by_cases ha : askE M n.data.toList = .ok
  · obtain ⟨hg, hk⟩ := ask_ok ha
    obtain ⟨a1, c1, a2, c2, hA, hb1, hb2⟩ := at_of hd hk
    refine (read_ok n a1 (old M n.data.toList).bytes c1 a2 _ c2 _ w hA hs hg (hl _ (Dp.look_some hk)) (hb1.lower (Nat.zero_le _))).mono ?_
    rintro e w' ⟨⟨a, c, rfl, hbs⟩, hb⟩
    exact ⟨⟨a, c, by simp only [rdL, ha, if_true]; rfl, by simpa only [rdL, ha, if_true] using hbs⟩, hb⟩
  · refine (read_no n w hd he hs ha).mono ?_
    rintro e w' ⟨rfl, hb⟩
    exact ⟨⟨none, 0, by simp [rdL, ha], by simp only [rdL, ha, if_false]; exact Bs.nil _ _ _ _ fun _ => rfl⟩, hb⟩

set_option maxHeartbeats 2000000 in
set_option maxRecDepth 100000 in
/-- Fill -/
theorem fill {lo d mb : Nat} {M : Dp.Files} {full : Bool} {lost : Int} (b : Bool) (w : World) (hd : Drive lo d mb w M full lost) :
    Calls Tryd.prog 41 #[.pointer (some ⟨d, 0, none⟩), .bool b] w fun e w' => e = .returned (.tuple #[]) ∧ Drive lo d mb w' M b lost ∧ Keep [d] w w' := by
  have f0 := hd.cell1
  have fz : w.frozen? ⟨d, 1, none⟩ = false := Lib.frozen_of_heap hd.cells 1
  go_enter Tryd.func41, Tryd.ntmps41
  go_wp2
  go_end0
  have hk : Keep [d] w (w.setCell ⟨d, 1, none⟩ (.bool b)) := (Keep.refl _ w).setCell (.inl (by simp)) _
  obtain ⟨D, ho, ht⟩ := hd.own
  refine ⟨rfl, ⟨hd.dtop, hd.mtop, hd.dlo, hd.mlo, hd.dmb, Nat.le_trans hd.low hk.size, ?_, D, ho.setCell (fun e => hd.dmb e.symm) _, ht.mono fun v f hf => hf.keep hk (by simp; exact hd.dlo)⟩, hk⟩
  have := hd.cells
  simp only [World.setCell, Array.getElem?_modify, if_true, this]
  rfl
end Go.Proofs.YtmimkgfkicgfiaaDoor.DiskC
