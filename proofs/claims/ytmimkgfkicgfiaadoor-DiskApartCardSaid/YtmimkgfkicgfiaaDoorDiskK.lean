/-
  What a drive with the one file f answers, told by what a script knows of it.
-/
import Derived.Test.YtmimkgfkicgfiaaDoorDiskH
namespace Go.Proofs.YtmimkgfkicgfiaaDoor.DiskK
open Go.RowKit Go.Proofs.YtmimkgfkicgfiaaDoor Go.Proofs.YtmimkgfkicgfiaaDoor.Dw Go.Proofs.YtmimkgfkicgfiaaDoor.DiskB Go.Proofs.YtmimkgfkicgfiaaDoor.DiskC Go.Proofs.YtmimkgfkicgfiaaDoor.DiskH

/-- the file is there; it is safe; what it holds; what is safe -/
def Rel (M : Dp.Files) (th kp : Bool) (nl sl : List UInt8) : Prop :=
  (th = false ∧ kp = false ∧ M = []) ∨ (th = true ∧ kp = false ∧ ∃ s, M = [(lF, ⟨nl, s, false⟩)]) ∨ (th = true ∧ kp = true ∧ M = [(lF, ⟨nl, sl, true⟩)])

theorem Rel.length {M : Dp.Files} {th kp : Bool} {nl sl : List UInt8} (h : Rel M th kp nl sl) : M.length ≤ 1 := by
  rcases h with ⟨_, _, rfl⟩ | ⟨_, _, s, rfl⟩ | ⟨_, _, rfl⟩ <;> simp
theorem Rel.names {M : Dp.Files} {th kp : Bool} {nl sl : List UInt8} (h : Rel M th kp nl sl) : ∀ p ∈ M, p.1.length ≤ maxLen := by
  have : lF.length ≤ maxLen := by decide
  rcases h with ⟨_, _, rfl⟩ | ⟨_, _, s, rfl⟩ | ⟨_, _, rfl⟩ <;> simp [this]
theorem Rel.bytes {M : Dp.Files} {th kp : Bool} {nl sl : List UInt8} (h : Rel M th kp nl sl) (hn : nl.length ≤ 140737488351232) : ∀ p ∈ M, p.2.bytes.length ≤ 140737488351232 := by
  rcases h with ⟨_, _, rfl⟩ | ⟨_, _, s, rfl⟩ | ⟨_, _, rfl⟩ <;> simp [hn]
theorem Rel.start : Rel [] false false [] [] := .inl ⟨rfl, rfl, rfl⟩
theorem Rel.kept {M : Dp.Files} {kp : Bool} {nl sl : List UInt8} (h : Rel M false kp nl sl) : kp = false := by
  rcases h with ⟨_, h, _⟩ | ⟨h, _⟩ | ⟨h, _⟩
  · exact h
  · cases h
  · cases h

theorem Rel.write {M : Dp.Files} {th kp : Bool} {nl sl : List UInt8} (h : Rel M th kp nl sl) (l : List UInt8) : wrE M false lF = .ok ∧ Rel (wrM M false lF l) true kp l sl := by
  have e : wrE M false lF = .ok := by
    have := h.length
    simp only [wrE, gF, if_true]
    rw [if_neg (by simp; omega)]
  refine ⟨e, ?_⟩
  rw [wrM, if_pos e]
  rcases h with ⟨_, rfl, rfl⟩ | ⟨_, rfl, s, rfl⟩ | ⟨_, rfl, rfl⟩
  · exact .inr (.inl ⟨rfl, rfl, [], by simp [Dp.put, old, Dp.look]⟩)
  · exact .inr (.inl ⟨rfl, rfl, s, by simp [Dp.put, old, Dp.look, List.lt_irrefl]⟩)
  · exact .inr (.inr ⟨rfl, rfl, by simp [Dp.put, old, Dp.look, List.lt_irrefl]⟩)
theorem Rel.ask0 {M : Dp.Files} {kp : Bool} {nl sl : List UInt8} (h : Rel M false kp nl sl) : askE M lF = .gone := by
  rcases h with ⟨_, _, rfl⟩ | ⟨h, _⟩ | ⟨h, _⟩
  · simp [askE, gF, Dp.look]
  · cases h
  · cases h
theorem Rel.ask1 {M : Dp.Files} {kp : Bool} {nl sl : List UInt8} (h : Rel M true kp nl sl) : askE M lF = .ok ∧ (old M lF).bytes = nl ∧ Rel (Dp.put M lF ⟨nl, nl, true⟩) true true nl nl ∧ Dp.del M lF = [] ∧ Rel (Dp.crash M) kp kp sl sl := by
  rcases h with ⟨h, _⟩ | ⟨_, rfl, s, rfl⟩ | ⟨_, rfl, rfl⟩
  · cases h
  · exact ⟨by simp [askE, gF, Dp.look], by simp [old, Dp.look], .inr (.inr ⟨rfl, rfl, by simp [Dp.put, List.lt_irrefl]⟩), by simp [Dp.del], .inl ⟨rfl, rfl, by simp [Dp.crash]⟩⟩
  · exact ⟨by simp [askE, gF, Dp.look], by simp [old, Dp.look], .inr (.inr ⟨rfl, rfl, by simp [Dp.put, List.lt_irrefl]⟩), by simp [Dp.del], .inr (.inr ⟨rfl, rfl, by simp [Dp.crash]⟩)⟩
theorem Rel.crash {M : Dp.Files} {th kp : Bool} {nl sl : List UInt8} (h : Rel M th kp nl sl) : Rel (Dp.crash M) (th && kp) kp sl sl := by
  cases th
  · obtain rfl := h.kept
    rcases h with ⟨_, _, rfl⟩ | ⟨h, _⟩ | ⟨h, _⟩
    · exact .inl ⟨rfl, rfl, rfl⟩
    · cases h
    · cases h
  · simpa using h.ask1.2.2.2.2

section
variable {lo d mb : Nat} {lost : Int} {w : World} {aN aF aG : Addr} {M : Dp.Files} {th kp : Bool} {nl sl : List UInt8}
theorem writeR (l : List UInt8) (hr : Rel M th kp nl sl) (hl : l.length ≤ 140737488351232) (hd : Drive lo d mb w M false lost) (he : Errs w aN aF aG) {a : Option Addr} {c : Nat} (hb : Bs 0 w a l c) :
    Calls Tryd.prog 35 #[.pointer (some ⟨d, 0, none⟩), .string ⟨#[102]⟩, .slice a l.length c] w fun e w' => e = .returned .nilIface ∧ (∃ M', Rel M' true kp l sl ∧ Drive lo d mb w' M' false lost) ∧ Keep [mb] w w' :=
  (DiskH.write bF l (hr.write l).1 rfl (by decide) hl (by have := hr.length; omega) hd he hb).mono fun _ _ ⟨h1, h2, h3⟩ => ⟨h1, ⟨_, (hr.write l).2, h2⟩, h3⟩
theorem sync0 (hr : Rel M false kp nl sl) (hd : Drive lo d mb w M false lost) (he : Errs w aN aF aG) :
    Calls Tryd.prog 36 #[.pointer (some ⟨d, 0, none⟩), .string ⟨#[102]⟩] w fun e w' => e = .returned (.iface 233 (.pointer (some aG))) ∧ (∃ M', Rel M' false kp nl sl ∧ Drive lo d mb w' M' false lost) ∧ Keep [mb] w w' := by
  have h0 : syE M false lF = .gone := by simp [syE, hr.ask0]
  refine (DiskC.sync bF w hd he (by decide) (by have := hr.length; omega)).mono ?_
  rintro e w' ⟨rfl, h3, h4⟩
  refine ⟨by rw [show bF.data.toList = lF from rfl, h0]; rfl, ⟨M, hr, ?_⟩, h4⟩
  rwa [show bF.data.toList = lF from rfl, syM, if_neg (by rw [h0]; decide)] at h3
theorem sync1 (hr : Rel M true kp nl sl) (hd : Drive lo d mb w M false lost) (he : Errs w aN aF aG) :
    Calls Tryd.prog 36 #[.pointer (some ⟨d, 0, none⟩), .string ⟨#[102]⟩] w fun e w' => e = .returned .nilIface ∧ (∃ M', Rel M' true true nl nl ∧ Drive lo d mb w' M' false lost) ∧ Keep [mb] w w' := by
  obtain ⟨h1, h2, h3, _⟩ := hr.ask1
  have h0 : syE M false lF = .ok := by simp [syE, h1]
  have h5 : syM M false lF = Dp.put M lF ⟨nl, nl, true⟩ := by rw [syM, if_pos h0, h2]
  exact (DiskH.sync bF h0 h5 (by decide) (by have := hr.length; omega) hd he).mono fun _ _ ⟨a, b, c⟩ => ⟨a, ⟨_, h3, b⟩, c⟩
theorem delete0 (hr : Rel M false kp nl sl) (hd : Drive lo d mb w M false lost) (he : Errs w aN aF aG) :
    Calls Tryd.prog 37 #[.pointer (some ⟨d, 0, none⟩), .string ⟨#[102]⟩] w fun e w' => e = .returned (.iface 233 (.pointer (some aG))) ∧ (∃ M', Rel M' false false nl sl ∧ Drive lo d mb w' M' false lost) ∧ Keep [mb] w w' := by
  have h0 := hr.ask0
  obtain rfl := hr.kept
  refine (DiskC.delete bF w hd he (by decide)).mono ?_
  rintro e w' ⟨rfl, h3, h4⟩
  refine ⟨by rw [show bF.data.toList = lF from rfl, h0]; rfl, ⟨M, hr, ?_⟩, h4⟩
  rwa [show bF.data.toList = lF from rfl, deM, if_neg (by rw [h0]; decide)] at h3
theorem delete1 (hr : Rel M true kp nl sl) (hd : Drive lo d mb w M false lost) (he : Errs w aN aF aG) :
    Calls Tryd.prog 37 #[.pointer (some ⟨d, 0, none⟩), .string ⟨#[102]⟩] w fun e w' => e = .returned .nilIface ∧ (∃ M', Rel M' false false nl sl ∧ Drive lo d mb w' M' false lost) ∧ Keep [mb] w w' := by
  obtain ⟨h1, _, _, h2, _⟩ := hr.ask1
  refine (DiskC.delete bF w hd he (by decide)).mono ?_
  rintro e w' ⟨rfl, h3, h4⟩
  refine ⟨by rw [show bF.data.toList = lF from rfl, h1]; rfl, ⟨[], .inl ⟨rfl, rfl, rfl⟩, ?_⟩, h4⟩
  rwa [show bF.data.toList = lF from rfl, deM, if_pos h1, h2] at h3
theorem crashR (hr : Rel M th kp nl sl) (hd : Drive lo d mb w M false lost) :
    Calls Tryd.prog 38 #[.pointer (some ⟨d, 0, none⟩)] w fun e w' => e = .returned (.tuple #[]) ∧ (∃ M', Rel M' (th && kp) kp sl sl ∧ Drive lo d mb w' M' false lost) ∧ Keep [mb] w w' :=
  (DiskF.crash w hd (by have := hr.length; omega) hr.names).mono fun _ _ ⟨a, b, c⟩ => ⟨a, ⟨_, hr.crash, b⟩, c⟩
theorem read0 (hr : Rel M false kp nl sl) (hn : nl.length ≤ 140737488351232) (hd : Drive lo d mb w M false lost) (he : Errs w aN aF aG) :
    Calls Tryd.prog 39 #[.pointer (some ⟨d, 0, none⟩), .string ⟨#[102]⟩] w fun e w' => (∃ a n c, e = .returned (.tuple #[.slice a n c, .iface 233 (.pointer (some aG))])) ∧ Below w.heap.size w w' := by
  have h0 := hr.ask0
  refine (DiskC.read bF w hd he (by decide) (hr.bytes hn)).mono ?_
  rintro e w' ⟨⟨a, c, rfl, _⟩, h3⟩
  exact ⟨⟨a, _, c, by rw [show bF.data.toList = lF from rfl, h0]; rfl⟩, h3⟩
theorem read1 (hr : Rel M true kp nl sl) (hn : nl.length ≤ 140737488351232) (hd : Drive lo d mb w M false lost) (he : Errs w aN aF aG) :
    Calls Tryd.prog 39 #[.pointer (some ⟨d, 0, none⟩), .string ⟨#[102]⟩] w fun e w' => (∃ a c, e = .returned (.tuple #[.slice a nl.length c, .nilIface]) ∧ Bs w.heap.size w' a nl c) ∧ Below w.heap.size w w' := by
  obtain ⟨h1, h2, _⟩ := hr.ask1
  exact DiskH.read bF nl h1 (by rw [rdL, if_pos (show askE M bF.data.toList = .ok from h1)]; exact h2) (by decide) (hr.bytes hn) hd he
end
end Go.Proofs.YtmimkgfkicgfiaaDoor.DiskK
