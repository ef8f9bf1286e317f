/-
  Requests of HTTP as lists of bytes. Plain: of no program.
-/
import Derived.Lib.SplitLaws
import Derived.Lib.CutLaws
import Derived.Lib.AtoiAll
import Derived.Lib.SlTrimSet
import Derived.Lib.Bytealg
namespace Go.Proofs.YtnhjbcjeeilicaaGreatDoor.Ht
open Go

def rng (lo hi : Int) (c : UInt8) : Bool := decide (lo ≤ (c.toNat : Int)) && decide ((c.toNat : Int) ≤ hi)
/-- all of a range -/
def allR (lo hi : Int) (l : List UInt8) : Bool := l.all (rng lo hi)
def upc (c : UInt8) : Bool := rng 65 90 c
def nmc (c : UInt8) : Bool := upc c || rng 97 122 c || rng 48 57 c || c == 45
def lc (c : UInt8) : UInt8 := if upc c then c + 32 else c
def vlc (c : UInt8) : Bool := c == 9 || rng 32 126 c
def spc (c : UInt8) : Bool := c == 32 || c == 9
abbrev Fld := List UInt8 × List UInt8

/-- a text's parts between the separators -/
def parts (sep : List UInt8) : Nat → List UInt8 → List (List UInt8)
  | 0, l => [l]
  | k + 1, l => if Lib.index l sep = -1 then [l] else l.take (Lib.index l sep).toNat :: parts sep k (l.drop ((Lib.index l sep).toNat + sep.length))
def split (sep l : List UInt8) : List (List UInt8) := parts sep (Lib.count l sep) l

theorem parts_eq (sep : List UInt8) : ∀ (k : Nat) (s : ByteArray), (Lib.splitB ⟨sep.toArray⟩ 0 k s).map (·.data.toList) = parts sep k s.data.toList
  | 0, s => rfl
  | k + 1, s => by
    unfold Lib.splitB parts
    have e : Lib.indexB s ⟨sep.toArray⟩ = Lib.index s.data.toList sep := rfl
    rw [e]
    by_cases h : Lib.index s.data.toList sep = -1
    · rw [if_pos (beq_iff_eq.2 h), if_pos h]; rfl
    · rw [if_neg (fun h2 => h (beq_iff_eq.1 h2)), if_neg h, List.map_cons, parts_eq sep k]
      have h1 := Lib.index_room s.data.toList sep (by have := Lib.index_ge s.data.toList sep; omega)
      congr 1
      · rw [Lib.extract_eq]; simp
      · congr 1
        rw [Lib.extract_to_end]
        rfl
theorem split_eq (sep : List UInt8) (s : ByteArray) : (Lib.splitB ⟨sep.toArray⟩ 0 (Lib.countB s ⟨sep.toArray⟩) s).map (·.data.toList) = split sep s.data.toList := parts_eq sep _ s
theorem parts_ne (sep : List UInt8) (k : Nat) (l : List UInt8) : parts sep k l ≠ [] := by
  cases k with
  | zero => simp [parts]
  | succ k => unfold parts; split <;> simp
theorem split_ne (sep l : List UInt8) : split sep l ≠ [] := parts_ne _ _ _
theorem parts_size {sep : List UInt8} : ∀ (k : Nat) (l x : List UInt8), x ∈ parts sep k l → x.length ≤ l.length
  | 0, l, x, h => by simp [parts] at h; subst h; exact Nat.le_refl _
  | k + 1, l, x, h => by
    unfold parts at h
    split at h
    · simp at h; subst h; exact Nat.le_refl _
    · rcases List.mem_cons.1 h with rfl | h
      · rw [List.length_take]; omega
      · have := parts_size k _ x h
        rw [List.length_drop] at this
        omega
theorem split_size {sep l x : List UInt8} (h : x ∈ split sep l) : x.length ≤ l.length := parts_size _ _ _ h
theorem parts_length {sep : List UInt8} : ∀ (k : Nat) (l : List UInt8), (parts sep k l).length ≤ k + 1
  | 0, l => by simp [parts]
  | k + 1, l => by
    unfold parts
    split
    · simp
    · have := parts_length (sep := sep) k (l.drop ((Lib.index l sep).toNat + sep.length))
      simp only [List.length_cons]; omega
theorem split_length (sep l : List UInt8) : (split sep l).length ≤ l.length + 2 := by
  have h1 := parts_length (sep := sep) (Lib.count l sep) l
  have h2 := Lib.count_le l sep
  unfold split
  omega

/-- a name in small letters -/
def lower (n : List UInt8) : List UInt8 × Bool := if n.all nmc = true then (n.map lc, decide (0 < n.length)) else ([], false)
def trim (v : List UInt8) : List UInt8 := Lib.trimS v [32, 9]
/-- before and behind the first colon -/
def name (s : List UInt8) : List UInt8 := (Lib.cut s [58]).1
def value (s : List UInt8) : List UInt8 := (Lib.cut s [58]).2.1
def found (s : List UInt8) : Bool := (Lib.cut s [58]).2.2
/-- a line's field -/
def field (s : List UInt8) : Option Fld := if found s = true ∧ (name s).all nmc = true ∧ name s ≠ [] ∧ (value s).all vlc = true then some ((name s).map lc, trim (value s)) else none

def http : List UInt8 := [72, 84, 84, 80, 47, 49, 46, 49]
def okm (m : List UInt8) : Bool := decide (1 ≤ m.length) && decide (m.length ≤ 16) && allR 65 90 m
def okt (t : List UInt8) : Bool := Lib.hasPrefix t [47] && allR 33 126 t
/-- a first line: method and target -/
def first (s : List UInt8) : Option Fld := match split [32] s with
  | [m, t, v] => if v = http ∧ okm m = true ∧ okt t = true then some (m, t) else none
  | _ => none
def fields : List (List UInt8) → Option (List Fld)
  | [] => some []
  | l :: r => match field l with
    | none => none
    | some f => match fields r with
      | none => none
      | some fs => some (f :: fs)

theorem first_three {l m t v : List UInt8} (h : split [32] l = [m, t, v]) : first l = if v = http ∧ okm m = true ∧ okt t = true then some (m, t) else none := by
  unfold first
  rw [h]
theorem first_not {l : List UInt8} (h : (split [32] l).length ≠ 3) : first l = none := by
  unfold first
  split
  · rename_i e; rw [e] at h; simp at h
  · rfl
theorem three {α : Type} {l : List α} (h : l.length = 3) : ∃ a b c, l = [a, b, c] := by
  match l, h with
  | [a, b, c], _ => exact ⟨a, b, c, rfl⟩

inductive Er where | bad | large
deriving DecidableEq
inductive Hd where | no (e : Er) | ok (m t : List UInt8) (fs : List Fld)
deriving DecidableEq
/-- a head -/
def head (s : List UInt8) : Hd := match split [13, 10] s with
  | [] => .no .bad
  | l :: ls => match first l with
    | none => .no .bad
    | some mt => match fields ls with
      | none => .no .bad
      | some fs => if 32 < fs.length then .no .large else .ok mt.1 mt.2 fs

def cl : List UInt8 := [99, 111, 110, 116, 101, 110, 116, 45, 108, 101, 110, 103, 116, 104]
def te : List UInt8 := [116, 114, 97, 110, 115, 102, 101, 114, 45, 101, 110, 99, 111, 100, 105, 110, 103]
def cnt (fs : List Fld) (n : List UInt8) : Nat := (fs.filter fun f => f.1 == n).length
def get (fs : List Fld) (n : List UInt8) : Option (List UInt8) := (fs.find? fun f => f.1 == n).map (·.2)
inductive Sz where | no (e : Er) | ok (n : Nat)
deriving DecidableEq
def dec (l : List UInt8) : Nat := l.foldl (fun n c => n * 10 + (c.toNat - 48)) 0
/-- how long a body is -/
def size (fs : List Fld) : Sz := if 0 < cnt fs te ∨ 1 < cnt fs cl then .no .bad else match get fs cl with
  | none => .ok 0
  | some s => if 1 ≤ s.length ∧ s.length ≤ 9 ∧ allR 48 57 s = true then (if 1024 < dec s then .no .large else .ok (dec s)) else .no .bad

def crlf2 : List UInt8 := [13, 10, 13, 10]
inductive Res where | none | no (e : Er) | ok (m t : List UInt8) (fs : List Fld) (body : List UInt8) (n : Nat)
deriving DecidableEq
/-- the request with which bytes begin -/
def parse (b : List UInt8) : Res :=
  if Lib.index (b.take 2048) crlf2 = -1 then (if 2048 ≤ b.length then .no .large else .none) else
  match head (b.take (Lib.index (b.take 2048) crlf2).toNat) with
  | .no e => .no e
  | .ok m t fs => match size fs with
    | .no e => .no e
    | .ok k => if b.length - ((Lib.index (b.take 2048) crlf2).toNat + 4) < k then .none else
      .ok m t fs ((b.drop ((Lib.index (b.take 2048) crlf2).toNat + 4)).take k) ((Lib.index (b.take 2048) crlf2).toNat + 4 + k)

/-- "GET /a HTTP/1.1\r\nHost: x\r\n\r\nrest" -/
def small : List UInt8 := [71, 69, 84, 32, 47, 97, 32, 72, 84, 84, 80, 47, 49, 46, 49, 13, 10, 72, 111, 115, 116, 58, 32, 120, 13, 10, 13, 10, 114, 101, 115, 116]
theorem small_parse : parse small = .ok [71, 69, 84] [47, 97] [([104, 111, 115, 116], [120])] [] 28 := by decide +kernel
end Go.Proofs.YtnhjbcjeeilicaaGreatDoor.Ht
