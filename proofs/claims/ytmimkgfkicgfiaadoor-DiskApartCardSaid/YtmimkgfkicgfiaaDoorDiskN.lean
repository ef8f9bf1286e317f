/-
  What DiskApart keeps of a drive's files: file f stands as it was synced. Plain: of no memory.
-/
import Derived.Test.YtmimkgfkicgfiaaDoorDiskH
import Derived.Test.YtmimkgfkicgfiaaDoorDiskF
namespace Go.Proofs.YtmimkgfkicgfiaaDoor.DiskN
open Go.Proofs.YtmimkgfkicgfiaaDoor Go.Proofs.YtmimkgfkicgfiaaDoor.Dw Go.Proofs.YtmimkgfkicgfiaaDoor.DiskB Go.Proofs.YtmimkgfkicgfiaaDoor.DiskC Go.Proofs.YtmimkgfkicgfiaaDoor.DiskH

/-- a drive on which file f is safe -/
structure Ap (M : Dp.Files) : Prop where
  up : Dp.Up M
  f : Dp.look M lF = some ⟨[1, 2], [1, 2], true⟩
  len : M.length ≤ 512
  nm : ∀ p ∈ M, DiskA.gd p.1 = true
  by_ : ∀ p ∈ M, p.2.bytes.length ≤ 140737488351232 ∧ p.2.safe.length ≤ 140737488351232

theorem gd_len {n : List UInt8} (h : DiskA.gd n = true) : 1 ≤ n.length ∧ n.length ≤ 63 := by
  unfold DiskA.gd at h
  simp only [Bool.and_eq_true, decide_eq_true_eq] at h
  exact h.1
theorem Ap.names {M : Dp.Files} (h : Ap M) : ∀ p ∈ M, p.1.length ≤ maxLen := fun p hp => by
  have := gd_len (h.nm p hp)
  unfold maxLen; omega
theorem Ap.bytes {M : Dp.Files} (h : Ap M) : ∀ p ∈ M, p.2.bytes.length ≤ 140737488351232 := fun p hp => (h.by_ p hp).1
theorem Ap.read {M : Dp.Files} (h : Ap M) : askE M lF = .ok ∧ rdL M lF = [1, 2] := by
  have h1 : askE M lF = .ok := by simp [askE, gF, h.f]
  exact ⟨h1, by rw [rdL, if_pos h1]; simp [old, h.f]⟩
theorem old_mem {M : Dp.Files} {n : List UInt8} (h : (Dp.look M n).isSome = true) : (n, old M n) ∈ M := by
  obtain ⟨f, hf⟩ := Option.isSome_iff_exists.1 h
  have := Dp.look_some hf
  simpa [old, hf] using this
theorem old_bytes {M : Dp.Files} (h : Ap M) (n : List UInt8) : (old M n).bytes.length ≤ 140737488351232 ∧ (old M n).safe.length ≤ 140737488351232 := by
  cases hk : Dp.look M n with
  | none => simp [old, hk]
  | some f => simpa [old, hk] using h.by_ _ (Dp.look_some hk)
/-- one file put aside of f -/
theorem Ap.put {M : Dp.Files} (h : Ap M) {n : List UInt8} {g : Dp.File} (hn : n ≠ lF) (hg : DiskA.gd n = true) (hb : g.bytes.length ≤ 140737488351232 ∧ g.safe.length ≤ 140737488351232) (hl : (Dp.look M n).isSome = true ∨ M.length < 512) : Ap (Dp.put M n g) := by
  refine ⟨Dp.up_put h.up n g, by rw [Dp.look_put_other _ _ _ _ (Ne.symm hn)]; exact h.f, ?_, fun p hp => ?_, fun p hp => ?_⟩
  · rw [Dp.length_put M h.up n g]
    have := h.len
    split
    · exact this
    · rename_i h1
      rcases hl with h2 | h2
      · exact absurd h2 h1
      · omega
  · rcases Dp.put_mem hp with rfl | hp
    · exact hg
    · exact h.nm p hp
  · rcases Dp.put_mem hp with rfl | hp
    · exact hb
    · exact h.by_ p hp
theorem Ap.del {M : Dp.Files} (h : Ap M) {n : List UInt8} (hn : n ≠ lF) : Ap (Dp.del M n) := by
  refine ⟨Dp.up_del h.up n, by rw [Dp.look_del_other _ _ _ (Ne.symm hn)]; exact h.f, ?_, fun p hp => h.nm p (Dp.del_mem hp), fun p hp => h.by_ p (Dp.del_mem hp)⟩
  have := Dp.length_del M h.up n
  have := h.len
  omega
theorem Ap.write {M : Dp.Files} (h : Ap M) (full : Bool) {n : List UInt8} (l : List UInt8) (hn : n ≠ lF) (hl : l.length ≤ 140737488351232) : Ap (wrM M full n l) := by
  unfold wrM
  split
  · rename_i h1
    unfold wrE at h1
    split at h1
    · rename_i hg
      split at h1
      · cases h1
      · rename_i h2
        refine h.put hn hg ⟨hl, (old_bytes h n).2⟩ ?_
        cases hk : (Dp.look M n).isSome
        · right
          rw [hk] at h2
          have : ¬ 512 ≤ M.length := fun h3 => h2 (.inr ⟨rfl, h3⟩)
          omega
        · exact .inl rfl
    · cases h1
  · exact h
theorem Ap.sync {M : Dp.Files} (h : Ap M) (full : Bool) {n : List UInt8} (hn : n ≠ lF) : Ap (syM M full n) := by
  unfold syM
  split
  · rename_i h1
    unfold syE at h1
    split at h1
    · rename_i ha
      obtain ⟨hg, hk⟩ : DiskA.gd n = true ∧ (Dp.look M n).isSome = true := by
        unfold askE at ha
        split at ha
        · rename_i hg
          split at ha
          · rename_i hk; exact ⟨hg, hk⟩
          · cases ha
        · cases ha
      exact h.put hn hg ⟨(old_bytes h n).1, (old_bytes h n).1⟩ (.inl hk)
    · rename_i ha; exact absurd h1 ha
  · exact h
theorem Ap.delete {M : Dp.Files} (h : Ap M) {n : List UInt8} (hn : n ≠ lF) : Ap (deM M n) := by
  unfold deM
  split
  · exact h.del hn
  · exact h
theorem Ap.rename {M : Dp.Files} (h : Ap M) {n t : List UInt8} (hn : n ≠ lF) (ht : t ≠ lF) : Ap (reM M n t) := by
  unfold reM
  split
  · rename_i h1
    unfold reE at h1
    split at h1
    · rename_i hg
      have hk : (Dp.look M n).isSome = true := by
        unfold askE at h1
        rw [if_pos hg.1] at h1
        split at h1
        · rename_i hk; exact hk
        · cases h1
      have hlen := Dp.length_del M h.up n
      rw [if_pos hk] at hlen
      exact (h.del hn).put ht hg.2 (old_bytes h n) (.inr (by have := h.len; omega))
    · cases h1
  · exact h
theorem crash_mem {M : Dp.Files} {p : List UInt8 × Dp.File} (h : p ∈ Dp.crash M) : ∃ q ∈ M, q.1 = p.1 ∧ p.2.bytes = q.2.safe ∧ p.2.safe = q.2.safe := by
  induction M with
  | nil => cases h
  | cons q r ih =>
    unfold Dp.crash at h
    split at h
    · rcases List.mem_cons.1 h with rfl | h
      · exact ⟨q, List.mem_cons_self, rfl, rfl, rfl⟩
      · obtain ⟨x, hx, e⟩ := ih h; exact ⟨x, List.mem_cons_of_mem _ hx, e⟩
    · obtain ⟨x, hx, e⟩ := ih h; exact ⟨x, List.mem_cons_of_mem _ hx, e⟩
theorem up_crash {M : Dp.Files} (h : Dp.Up M) : Dp.Up (Dp.crash M) := by
  induction M with
  | nil => exact h
  | cons q r ih =>
    obtain ⟨h1, h2⟩ := List.pairwise_cons.1 h
    unfold Dp.crash
    split
    · refine List.pairwise_cons.2 ⟨fun p hp => ?_, ih h2⟩
      obtain ⟨x, hx, e, _⟩ := crash_mem hp
      rw [← e]
      exact h1 x hx
    · exact ih h2
theorem look_crash {M : Dp.Files} (hu : Dp.Up M) {n : List UInt8} {b s : List UInt8} (h : Dp.look M n = some ⟨b, s, true⟩) : Dp.look (Dp.crash M) n = some ⟨s, s, true⟩ := by
  refine Dp.look_of_mem (up_crash hu) ?_
  have hm := Dp.look_some h
  clear h hu
  induction M with
  | nil => cases hm
  | cons q r ih =>
    unfold Dp.crash
    rcases List.mem_cons.1 hm with rfl | hm
    · simp
    · split
      · exact List.mem_cons_of_mem _ (ih hm)
      · exact ih hm
theorem Ap.crash {M : Dp.Files} (h : Ap M) : Ap (Dp.crash M) := by
  refine ⟨up_crash h.up, look_crash h.up h.f, ?_, fun p hp => ?_, fun p hp => ?_⟩
  · have := DiskF.crash_len M
    have := h.len
    omega
  · obtain ⟨q, hq, e, _⟩ := crash_mem hp
    rw [← e]; exact h.nm q hq
  · obtain ⟨q, hq, _, e1, e2⟩ := crash_mem hp
    rw [e1, e2]; exact ⟨(h.by_ q hq).2, (h.by_ q hq).2⟩

/-- the names rise, and f is among them -/
theorem Ap.rise {M : Dp.Files} (h : Ap M) : (Dp.names M).Pairwise (· < ·) := List.pairwise_map.2 h.up
theorem Ap.has {M : Dp.Files} (h : Ap M) : lF ∈ Dp.names M := Dp.mem_names.2 (by rw [h.f]; rfl)
theorem Ap.long {M : Dp.Files} (h : Ap M) : ∀ n ∈ Dp.names M, 1 ≤ n.length := fun n hn => by
  obtain ⟨p, hp, rfl⟩ := List.mem_map.1 hn
  exact (gd_len (h.nm p hp)).1
/-- the name before -/
def before (ns : List (List UInt8)) : List UInt8 := ns.getLast?.getD []
theorem before_snoc (ns : List (List UInt8)) (x : List UInt8) : before (ns ++ [x]) = x := by simp [before]
theorem before_lt {xs ns : List (List UInt8)} {x : List UInt8} (hp : xs.Pairwise (· < ·)) (hl : ∀ n ∈ xs, 1 ≤ n.length) (h : (ns ++ [x]) <+: xs) : before ns < x := by
  obtain ⟨r, rfl⟩ := h
  rcases List.eq_nil_or_concat ns with rfl | ⟨ms, y, rfl⟩
  · have := hl x (by simp)
    unfold before
    cases x with
    | nil => simp at this
    | cons a b => simp
  · rw [List.concat_eq_append] at hp ⊢
    rw [before_snoc]
    have h1 := (List.pairwise_append.1 hp).1
    exact (List.pairwise_append.1 h1).2.2 y (by simp) x (by simp)
end Go.Proofs.YtmimkgfkicgfiaaDoor.DiskN
