/-
  What a drive with the files f and t answers.
-/
import Derived.Test.YtmimkgfkicgfiaaDoorDiskG
import Derived.LoopN
namespace Go.Proofs.YtmimkgfkicgfiaaDoor.DiskH
open Go.RowKit Go.Proofs.YtmimkgfkicgfiaaDoor Go.Proofs.YtmimkgfkicgfiaaDoor.Dw Go.Proofs.YtmimkgfkicgfiaaDoor.DiskB Go.Proofs.YtmimkgfkicgfiaaDoor.DiskC

section
variable {lo d mb : Nat} {lost : Int} {w : World} {aN aF aG : Addr} {M M' : Dp.Files}
theorem write (n : ByteArray) (l : List UInt8) (h1 : wrE M false n.data.toList = .ok) (h2 : wrM M false n.data.toList l = M') (hs : n.size ≤ maxLen) (hl : l.length ≤ 140737488351232) (hM : M.length < 4294967296) (hd : Drive lo d mb w M false lost) (he : Errs w aN aF aG) {a : Option Addr} {c : Nat} (hb : Bs 0 w a l c) :
    Calls Tryd.prog 35 #[.pointer (some ⟨d, 0, none⟩), .string n, .slice a l.length c] w fun e w' => e = .returned .nilIface ∧ Drive lo d mb w' M' false lost ∧ Keep [mb] w w' := by
  refine (DiskB.write n a l c w hd he hs hl hb hM).mono ?_
  rintro e w' ⟨rfl, h3, h4⟩
  exact ⟨by rw [h1]; rfl, by rw [← h2]; exact h3, h4⟩
theorem sync (n : ByteArray) (h1 : syE M false n.data.toList = .ok) (h2 : syM M false n.data.toList = M') (hs : n.size ≤ maxLen) (hM : M.length < 4294967296) (hd : Drive lo d mb w M false lost) (he : Errs w aN aF aG) :
    Calls Tryd.prog 36 #[.pointer (some ⟨d, 0, none⟩), .string n] w fun e w' => e = .returned .nilIface ∧ Drive lo d mb w' M' false lost ∧ Keep [mb] w w' := by
  refine (DiskC.sync n w hd he hs hM).mono ?_
  rintro e w' ⟨rfl, h3, h4⟩
  exact ⟨by rw [h1]; rfl, by rw [← h2]; exact h3, h4⟩
theorem rename (n t : ByteArray) (h1 : reE M n.data.toList t.data.toList = .ok) (h2 : reM M n.data.toList t.data.toList = M') (hs : n.size ≤ maxLen) (ht : t.size ≤ maxLen) (hM : M.length < 4294967296) (hd : Drive lo d mb w M false lost) (he : Errs w aN aF aG) :
    Calls Tryd.prog 40 #[.pointer (some ⟨d, 0, none⟩), .string n, .string t] w fun e w' => e = .returned .nilIface ∧ Drive lo d mb w' M' false lost ∧ Keep [mb] w w' := by
  refine (DiskD.rename n t w hd he hs ht hM).mono ?_
  rintro e w' ⟨rfl, h3, h4⟩
  exact ⟨by rw [h1]; rfl, by rw [← h2]; exact h3, h4⟩
theorem crash (h : Dp.crash M = M') (hM : M.length < 4294967295) (hn : ∀ p ∈ M, p.1.length ≤ maxLen) (hd : Drive lo d mb w M false lost) :
    Calls Tryd.prog 38 #[.pointer (some ⟨d, 0, none⟩)] w fun e w' => e = .returned (.tuple #[]) ∧ Drive lo d mb w' M' false lost ∧ Keep [mb] w w' := by
  have := DiskF.crash w hd hM hn
  rwa [h] at this
theorem read (n : ByteArray) (l : List UInt8) (h1 : askE M n.data.toList = .ok) (h2 : rdL M n.data.toList = l) (hs : n.size ≤ maxLen) (hl : ∀ p ∈ M, p.2.bytes.length ≤ 140737488351232) (hd : Drive lo d mb w M false lost) (he : Errs w aN aF aG) :
    Calls Tryd.prog 39 #[.pointer (some ⟨d, 0, none⟩), .string n] w fun e w' => (∃ a c, e = .returned (.tuple #[.slice a l.length c, .nilIface]) ∧ Bs w.heap.size w' a l c) ∧ Below w.heap.size w w' := by
  refine (DiskC.read n w hd he hs hl).mono ?_
  rintro e w' ⟨⟨a, c, rfl, h3⟩, h4⟩
  rw [h2] at h3
  exact ⟨⟨a, c, by rw [h1, h2]; rfl, h3⟩, h4⟩
end

def bF : ByteArray := ⟨#[102]⟩
def bT : ByteArray := ⟨#[116]⟩
def lF : List UInt8 := [102]
def lT : List UInt8 := [116]
theorem gF : DiskA.gd lF = true := by decide
theorem gT : DiskA.gd lT = true := by decide
theorem ltFT : (lF < lT) = true := by decide
theorem neFT : (lF = lT) = False := by decide
theorem neTF : (lT = lF) = False := by decide
theorem nTF : (lT < lF) = false := by decide
def q0 (o : List UInt8) : Dp.Files := [(lF, ⟨o, [], false⟩)]
def p0 (o : List UInt8) : Dp.Files := [(lF, ⟨o, o, true⟩)]
def p1 (o f : List UInt8) : Dp.Files := [(lF, ⟨o, o, true⟩), (lT, ⟨f, [], false⟩)]
def p2 (o f : List UInt8) : Dp.Files := [(lF, ⟨o, o, true⟩), (lT, ⟨f, f, true⟩)]
section
variable (o f : List UInt8)
theorem a0 : wrE [] false lF = .ok := by decide
theorem b0 : wrM [] false lF o = q0 o := by simp [wrM, a0, Dp.put, old, Dp.look, q0]
theorem a1 : syE (q0 o) false lF = .ok := by simp [syE, askE, gF, q0, Dp.look]
theorem b1 : syM (q0 o) false lF = p0 o := by
  rw [syM, if_pos (a1 o)]
  simp [q0, Dp.put, old, Dp.look, p0, List.lt_irrefl]
theorem a2 : wrE (p0 o) false lT = .ok := by simp [wrE, gT, p0]
theorem b2 : wrM (p0 o) false lT f = p1 o f := by
  rw [wrM, if_pos (a2 o)]
  simp [p0, p1, Dp.put, old, Dp.look, nTF, neFT]
theorem a3 : syE (p1 o f) false lT = .ok := by simp [syE, askE, gT, p1, Dp.look, neFT]
theorem b3 : syM (p1 o f) false lT = p2 o f := by
  rw [syM, if_pos (a3 o f)]
  simp [p1, p2, Dp.put, old, Dp.look, nTF, neFT, List.lt_irrefl]
theorem a4 : reE (p2 o f) lT lF = .ok := by simp [reE, askE, gT, gF, p2, Dp.look, neFT]
theorem b4 : reM (p2 o f) lT lF = p0 f := by
  rw [reM, if_pos (a4 o f)]
  simp [p2, p0, Dp.put, Dp.del, old, Dp.look, neFT, List.lt_irrefl]
theorem c0 : Dp.crash (p0 o) = p0 o := by simp [p0, Dp.crash]
theorem c1 : Dp.crash (p1 o f) = p0 o := by simp [p1, p0, Dp.crash]
theorem c2 : Dp.crash (p2 o f) = p2 o f := by simp [p2, Dp.crash]
theorem d0 : askE (p0 o) lF = .ok := by simp [askE, gF, p0, Dp.look]
theorem r0 : rdL (p0 o) lF = o := by rw [rdL, if_pos (d0 o)]; simp [old, p0, Dp.look]
theorem d2 : askE (p2 o f) lF = .ok := by simp [askE, gF, p2, Dp.look]
theorem r2 : rdL (p2 o f) lF = o := by rw [rdL, if_pos (d2 o f)]; simp [old, p2, Dp.look]
end
end Go.Proofs.YtmimkgfkicgfiaaDoor.DiskH
