/-
  The walk of the law's alive.
-/
import Derived.Test.YtnhjbcjeeilicaaGreatDoorHtI
import Derived.Test.YtnhjbcjeeilicaaGreatDoorHtL
import Derived.Lib.SlBytesConst
namespace Go.Proofs.YtnhjbcjeeilicaaGreatDoor.HtN
open Go.RowKit Go.Proofs.YtnhjbcjeeilicaaGreatDoor Go.Proofs.YtnhjbcjeeilicaaGreatDoor.Ht Go.Proofs.YtnhjbcjeeilicaaGreatDoor.HtW Go.Proofs.YtnhjbcjeeilicaaGreatDoor.HtC Go.Proofs.YtnhjbcjeeilicaaGreatDoor.HtJ Go.Proofs.YtnhjbcjeeilicaaGreatDoor.HtK Go.Proofs.YtnhjbcjeeilicaaGreatDoor.HtL Go.Proofs.YtnhjbcjeeilicaaGreatDoor.HtI

theorem small_write : wr 204 [] [] = [72, 84, 84, 80, 47, 49, 46, 49, 32, 50, 48, 52, 32, 78, 111, 32, 67, 111, 110, 116, 101, 110, 116, 13, 10, 99, 111, 110, 116, 101, 110, 116, 45, 108, 101, 110, 103, 116, 104, 58, 32, 48, 13, 10, 13, 10] := by decide +kernel
abbrev smallCells : Array Value := #[.int .u8 71, .int .u8 69, .int .u8 84, .int .u8 32, .int .u8 47, .int .u8 97, .int .u8 32, .int .u8 72, .int .u8 84, .int .u8 84, .int .u8 80, .int .u8 47, .int .u8 49, .int .u8 46, .int .u8 49, .int .u8 13, .int .u8 10, .int .u8 72, .int .u8 111, .int .u8 115, .int .u8 116, .int .u8 58, .int .u8 32, .int .u8 120, .int .u8 13, .int .u8 10, .int .u8 13, .int .u8 10, .int .u8 114, .int .u8 101, .int .u8 115, .int .u8 116]
theorem small_bs (w : World) : Bs (w.alloc (.cells smallCells 5 (32, 33))) (some ⟨w.heap.size, 0, none⟩) small 32 := by
  refine ⟨by decide, (fun h => by cases h), .inr ⟨w.heap.size, 0, rfl, by simp, fun j x hj => ?_⟩⟩
  have e : smallCells = (small.map (fun x => Value.int .u8 (x.toNat : Int))).toArray := by kernel_rfl
  rw [Lib.cell_of_heap (heap_alloc_new' w smallCells 5 (32, 33)), Nat.zero_add, e]
  simp [hj]

set_option maxHeartbeats 4000000 in
set_option maxRecDepth 100000 in
theorem alive (w : World) {aR aL : Addr} (hm : Mx w) (he : Errs w aR aL) (ht : Tab w) :
    Calls Tryz.prog 4 #[] w fun e w' => e = .returned (.bool true) ∧ Below w.heap.size w w' := by
  have kc := Lib.run_convert_bytes_const (P := Tryz.prog) w 22 5 smallCells 32 32 Tryz.underlying22 Tryz.underlying5
  have HM := Lib.hid hm; clear hm
  have HE := Lib.hid he; clear he
  have HT := Lib.hid ht; clear ht
  go_enter Tryz.func4, Tryz.ntmps4
  go_wp2_with fail
  have hal := (Below.refl w.heap.size w).alloc (Nat.le_refl _) (.cells smallCells 5 (32, 33))
  go_wp2_with (go_at_call 6; refine (parse (some ⟨w.heap.size, 0, none⟩) small 32 _ (small_bs w) (by decide) (HM.out.below hal) (HE.out.below hal)).mono ?_; rintro e w1 ⟨hp, hb1⟩; unfold ParsePost at hp; rw [small_parse] at hp; obtain ⟨af, cf, ab, cb, rfl, hfs, hown, -, -⟩ := hp)
  obtain ⟨b0, o0, rfl, hb0, d0, d1⟩ := Fs.at hfs (k := 0) (q := ([104, 111, 115, 116], [120])) rfl
  have c0 : w1.cell? ⟨b0, o0, none⟩ = some (.string ⟨#[104, 111, 115, 116]⟩) := d0
  have c1 : w1.cell? ⟨b0, o0 + 1, none⟩ = some (.string ⟨#[120]⟩) := d1
  clear d0 d1 hfs hown
  have hB1 : Below w.heap.size w w1 := hal.trans (hb1.mono (by simp))
  have hB2 := hB1.alloc hB1.size (.cells #[.string ⟨#[71, 69, 84]⟩, .string ⟨#[47, 97]⟩, .slice (some ⟨b0, o0, none⟩) 1 cf, .slice ab 0 cb] 27)
  have ki : ∀ W : World, (Instr.indexAt 25 (.slice (some ⟨b0, o0, none⟩) 1 cf) (.int .i64 0)).run Tryz.prog W = .ok (.pointer (some ⟨b0, o0, none⟩)) W := by
    intro W
    kernel_rfl
  go_wp2_with fail
  rw [ki]
  clear ki
  go_wp2_with (go_at_call 12; refine (write (aF := none) (aB := none) (cF := 0) (cB := 0) 204 [] [] _ (by decide) (by decide) (HT.out.below hB2) (.inl rfl) (fun _ => ⟨rfl, rfl⟩) (Nat.le_refl _) ⟨Nat.le_refl _, fun _ => rfl, .inl rfl⟩ (by decide) (by decide) (by rw [small_write]; decide)).mono ?_; rintro e w2 ⟨⟨ar, cr, rfl, hbs, -⟩, hb2⟩; rw [small_write] at hbs; have ks : (convert 22 9 (.slice ar 46 cr)).run Tryz.prog w2 = .ok (.string ⟨#[72, 84, 84, 80, 47, 49, 46, 49, 32, 50, 48, 52, 32, 78, 111, 32, 67, 111, 110, 116, 101, 110, 116, 13, 10, 99, 111, 110, 116, 101, 110, 116, 45, 108, 101, 110, 103, 116, 104, 58, 32, 48, 13, 10, 13, 10]⟩) w2 := to_string hbs; rw [small_write])
  go_ret
  exact ⟨rfl, hB2.trans (hb2.mono hB2.size)⟩
end Go.Proofs.YtnhjbcjeeilicaaGreatDoor.HtN
