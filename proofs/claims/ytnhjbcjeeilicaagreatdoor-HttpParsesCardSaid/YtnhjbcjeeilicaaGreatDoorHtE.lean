/-
  The walk of package http's field.
-/
import Derived.Test.YtnhjbcjeeilicaaGreatDoorHtD
import Derived.Shelf.Strings.SlTrimAscii
namespace Go.Proofs.YtnhjbcjeeilicaaGreatDoor.HtE
open Go.RowKit Go.Proofs.YtnhjbcjeeilicaaGreatDoor Go.Proofs.YtnhjbcjeeilicaaGreatDoor.Ht Go.Proofs.YtnhjbcjeeilicaaGreatDoor.HtW Go.Proofs.YtnhjbcjeeilicaaGreatDoor.HtC Go.Proofs.YtnhjbcjeeilicaaGreatDoor.HtD

theorem field_some {s : List UInt8} (h1 : found s = true) (h2 : (Ht.lower (name s)).2 = true) (h3 : (value s).all vlc = true) : Ht.field s = some ((Ht.lower (name s)).1, trim (value s)) := by
  unfold Ht.lower at h2 ⊢
  split at h2
  · rename_i h
    unfold Ht.field
    rw [if_pos ⟨h1, h, (by rintro e; rw [e] at h2; simp at h2), h3⟩, if_pos h]
  · cases h2
theorem field_none {s : List UInt8} (h : found s = false ∨ (Ht.lower (name s)).2 = false ∨ (value s).all vlc = false) : Ht.field s = none := by
  unfold Ht.field
  rw [if_neg]
  rintro ⟨h1, h2, h3, h4⟩
  rcases h with h | h | h
  · rw [h] at h1; cases h1
  · unfold Ht.lower at h
    rw [if_pos h2] at h
    have : 0 < (name s).length := List.length_pos_iff.2 h3
    simp at h
    exact h3 h
  · rw [h] at h4; cases h4

/-- a field's box -/
def Fq (B : Nat) (w : World) (u0 u1 : Value) : Prop := w.heap[B]? = some (.cells #[u0, u1] 39 (0, 0))
theorem Fq.below {B : Nat} {w w' : World} {u0 u1 : Value} (h : Fq B w u0 u1) (hb : Below w.heap.size w w') : Fq B w' u0 u1 := (hb.block _ (Array.getElem?_eq_some_iff.1 h).1).trans h
theorem Fq.cells {B : Nat} {w : World} {u0 u1 : Value} (h : Fq B w u0 u1) : w.cell? ⟨B, 0, none⟩ = some u0 ∧ w.cell? ⟨B, 1, none⟩ = some u1 ∧ w.frozen? ⟨B, 0, none⟩ = false ∧ w.frozen? ⟨B, 1, none⟩ = false := by
  unfold Fq at h
  refine ⟨?_, ?_, Lib.frozen_of_heap h 0, Lib.frozen_of_heap h 1⟩
  all_goals (rw [Lib.cell_of_heap h]; rfl)
theorem Fq.put {B : Nat} {w : World} {u0 u1 : Value} (h : Fq B w u0 u1) (a b : Value) : Fq B ((w.setCell ⟨B, 0, none⟩ a).setCell ⟨B, 1, none⟩ b) a b := by
  unfold Fq at h ⊢
  simp only [World.setCell, Array.getElem?_modify, if_true, h]
  rfl
theorem Fq.run {B : Nat} {w : World} {a b er : Value} (h : Fq B w a b) {fn : Func} (e : fn.results = #[.cell 2 39, .tmp 3]) {tmps : Array Value} (h2 : tmps.getD 2 undef = .pointer (some ⟨B, 0, none⟩)) (h3 : tmps.getD 3 undef = er) :
    (results fn tmps).run Tryz.prog w = .ok (.tuple #[.agg #[a, b], er]) w := by
  obtain ⟨r0, r1, _⟩ := h.cells
  rw [results_cell_tmp e, h2, h3]
  simp [go_sem, r0, r1, Result.andThen]
theorem below_two {B : Nat} {w w' : World} (h : Below B w w') (a b : Value) : Below B w ((w'.setCell ⟨B, 0, none⟩ a).setCell ⟨B, 1, none⟩ b) :=
  (h.setCell (p := ⟨B, 0, none⟩) (Nat.le_refl _) _).setCell (p := ⟨B, 1, none⟩) (Nat.le_refl _) _
def FieldPost (s : List UInt8) (e : Ending) : Prop := match Ht.field s with
  | some f => e = .returned (.tuple #[.agg #[.string ⟨f.1.toArray⟩, .string ⟨f.2.toArray⟩], .bool true])
  | none => ∃ a b : ByteArray, e = .returned (.tuple #[.agg #[.string a, .string b], .bool false])
theorem fp_no {s : List UInt8} {a b : ByteArray} (h : Ht.field s = none) : FieldPost s (.returned (.tuple #[.agg #[.string a, .string b], .bool false])) := by unfold FieldPost; rw [h]; exact ⟨a, b, rfl⟩
theorem cut_len (s : List UInt8) : (name s).length ≤ s.length ∧ (value s).length ≤ s.length := by
  unfold name value Lib.cut
  split
  · simp; omega
  · simp
theorem trim_ok (s : ByteArray) (w : World) (hs : s.size ≤ 4294967296) :
    Calls Tryz.prog 45 #[.string s, .string ⟨#[32, 9]⟩] w fun e w' => e = .returned (.string ⟨(trim s.data.toList).toArray⟩) ∧ Below w.heap.size w w' :=
  Any.strings_Trim_laid Tryz.lays160 (by kernel_rfl) s ⟨#[32, 9]⟩ w (by omega) (by decide) (ascii_of_all (by decide))
theorem vl_iff (c : UInt8) : vlc c = true ↔ c.toNat = 9 ∨ (32 ≤ c.toNat ∧ c.toNat ≤ 126) := by
  have e : (c == 9) = true ↔ c.toNat = 9 := by
    rw [beq_iff_eq]
    exact ⟨fun h => by rw [h]; rfl, fun h => UInt8.toNat_inj.1 h⟩
  simp only [vlc, Bool.or_eq_true, e]
  simp [rng]
  omega

set_option maxHeartbeats 4000000 in
set_option maxRecDepth 100000 in
theorem field (s : ByteArray) (w : World) (hs : s.size < 4294967281) (hm : Mx w) :
    Calls Tryz.prog 32 #[.string s] w fun e w' => FieldPost s.data.toList e ∧ Below w.heap.size w w' := by
  have hcl := cut_len s.data.toList
  rw [Com.toList_length] at hcl
  go_enter Tryz.func32, Tryz.ntmps32
  go_wp2_with fail
  refine (cut s _ hs (hm.below ((Below.refl _ _).alloc (Nat.le_refl _) _))).mono ?_
  rintro e w1 ⟨rfl, hb1⟩
  go_wp2_with fail
  refine (lower ⟨(name s.data.toList).toArray⟩ _ (by rw [Com.size_mk]; omega)).mono ?_
  rintro e w2 ⟨rfl, hb2⟩
  rw [show (ByteArray.mk (name s.data.toList).toArray).data.toList = name s.data.toList from rfl]
  have hB : Below w.heap.size w w2 := ((Below.refl _ w).alloc (Nat.le_refl _) _).trans ((hb1.mono (by simp)).trans (hb2.mono (by have := hb1.size; simp at this; omega)))
  have hF : Fq w.heap.size w2 (.string ⟨#[]⟩) (.string ⟨#[]⟩) := Fq.below (Fq.below (heap_alloc_new _ _) hb1) hb2
  obtain ⟨q0, q1, f0, f1⟩ := hF.cells
  have HB := Lib.hid hB
  have HF := Lib.hid hF
  have hSome := fun h1 h2 h3 => field_some (s := s.data.toList) h1 h2 h3
  have hNone := fun h => field_none (s := s.data.toList) h
  obtain ⟨x, hx⟩ : ∃ x : ByteArray, x = ⟨(value s.data.toList).toArray⟩ := ⟨_, rfl⟩
  have hxv : value s.data.toList = x.data.toList := by rw [hx]
  rw [← hx]
  have hxs : x.size ≤ 4294967281 := by rw [hx, Com.size_mk]; omega
  rw [hxv] at hSome hNone
  generalize (Ht.lower (name s.data.toList)).1 = nm at *
  generalize (Ht.lower (name s.data.toList)).2 = ok at *
  generalize found s.data.toList = fnd at *
  have HSOME := Lib.hid hSome
  have HNONE := Lib.hid hNone
  clear hSome hNone hx hxv hcl hb1 hb2 hB hF
  go_wp2_with fail
  go_loopg [23] x.size (fun g v23 wr => ∃ k : Nat, k + g = x.size ∧ v23 = .int .i64 k ∧ Hid ((x.data.toList.take k).all vlc = true) ∧ wr = w2)
  case atStart => exact ⟨0, by simp, rfl, rfl, rfl⟩
  case round =>
    obtain ⟨k, hkg, rfl, HA, rfl⟩ := hrel
    have HG := Lib.hid hkg
    have hkx : k ≤ x.size := by omega
    clear hkg
    by_cases hlt : k < x.size
    · have hts := Com.take_succ x k hlt
      have hmem : x[k] ∈ x.data.toList := by
        have h3 : x[k] ∈ x.data.toList.take (k + 1) := by rw [hts]; simp
        exact List.mem_of_mem_take h3
      have HT := Lib.hid hts; clear hts
      have HM := Lib.hid hmem; clear hmem
      have NO := Lib.hid (show vlc x[k] = false → Ht.field s.data.toList = none from fun h => HNONE.out (.inr (.inr (List.all_eq_false.2 ⟨_, HM.out, by simp [h]⟩))))
      have YES := Lib.hid (show vlc x[k] = true → (x.data.toList.take (k + 1)).all vlc = true from fun h => by rw [HT.out, List.all_append, HA.out]; simp [h])
      have hcl := UInt8.toNat_lt x[k]
      by_cases a1 : x[k].toNat = 9
      · have t1 : ((x[k].toNat : Int) == 9) = true := by simp; omega
        have HV := Lib.hid (YES.out ((vl_iff _).2 (.inl a1)))
        go_wp2_with fail
        go_roundg (x.size - (k + 1))
        case measure => have := HG.out; omega
        case rel => exact ⟨k + 1, by omega, by go_num, HV, rfl⟩
      · have t1 : ((x[k].toNat : Int) == 9) = false := by simp; omega
        by_cases a2 : x[k].toNat < 32
        · have t2 : (x[k].toNat : Int) < 32 := by omega
          have HV := Lib.hid (NO.out (by cases h : vlc x[k]; · rfl
                                         · rw [vl_iff] at h; omega))
          go_wp2_with fail
          refine bodyPost_ret ((HF.out.put _ _).run rfl rfl rfl) rfl ⟨?_, below_two HB.out _ _⟩
          exact fp_no HV.out
        · have t2 : ¬ (x[k].toNat : Int) < 32 := by omega
          by_cases a3 : x[k].toNat ≤ 126
          · have t3 : ¬ 126 < (x[k].toNat : Int) := by omega
            have HV := Lib.hid (YES.out ((vl_iff _).2 (.inr (by omega))))
            go_wp2_with fail
            go_roundg (x.size - (k + 1))
            case measure => have := HG.out; omega
            case rel => exact ⟨k + 1, by omega, by go_num, HV, rfl⟩
          · have t3 : 126 < (x[k].toNat : Int) := by omega
            have HV := Lib.hid (NO.out (by cases h : vlc x[k]; · rfl
                                           · rw [vl_iff] at h; omega))
            go_wp2_with fail
            refine bodyPost_ret ((HF.out.put _ _).run rfl rfl rfl) rfl ⟨?_, below_two HB.out _ _⟩
            exact fp_no HV.out
    · have hall := HA.out
      rw [Com.take_all x k (by omega)] at hall
      have HALL := Lib.hid hall
      clear hall
      go_wp2_with fail
      refine (trim_ok x _ (by omega)).mono ?_
      rintro e w3 ⟨rfl, hb3⟩
      have HF3 := Lib.hid (HF.out.below hb3)
      have HB3 := Lib.hid (HB.out.trans (hb3.mono HB.out.size))
      clear hb3 q0 q1 f0 f1
      obtain ⟨q0, q1, f0, f1⟩ := HF3.out.cells
      cases fnd
      · have HV := Lib.hid (HNONE.out (.inl rfl))
        go_wp2_with fail
        refine bodyPost_ret ((HF3.out.put _ _).run rfl rfl rfl) rfl ⟨?_, below_two HB3.out _ _⟩
        exact fp_no HV.out
      · cases ok
        · have HV := Lib.hid (HNONE.out (.inr (.inl rfl)))
          go_wp2_with fail
          refine bodyPost_ret ((HF3.out.put _ _).run rfl rfl rfl) rfl ⟨?_, below_two HB3.out _ _⟩
          exact fp_no HV.out
        · have HV := Lib.hid (HSOME.out rfl rfl HALL.out)
          go_wp2_with fail
          refine bodyPost_ret ((HF3.out.put _ _).run rfl rfl rfl) rfl ⟨?_, below_two HB3.out _ _⟩
          unfold FieldPost
          rw [HV.out]
          rfl
end Go.Proofs.YtnhjbcjeeilicaaGreatDoor.HtE
