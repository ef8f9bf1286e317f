/-
  Requests of HTTP as lists of bytes. Plain: of no program. Fields of HTTP in memory; two of package api's errors. Bytes appended to a row of the call's own. Appends of bytes, as arms of a walk. The walks of the sums of bytes (wire.Sum, bollardref05.Sum). The walks of the two rot.
-/
import Derived.Test.YtecnnlppinhmgaaGreatDoorSa01
import Derived.Lib.SplitLaws
import Derived.Lib.CutLaws
import Derived.Lib.AtoiAll
import Derived.Lib.SlTrimSet
import Derived.Lib.Bytealg
import Derived.Test.YtecnnlppinhmgaaGreatDoorProg
import Derived.Below
import Derived.WalkKit
import Derived.OwnWalk
import Derived.Laws.AppendOwn
import Derived.Deep.Upon
import Derived.Deep.LoopGhost
import Derived.Lib.Hide
import Derived.IntWalk
import Derived.BigQuiet
import Derived.Deep.RegionHeld3
import Derived.Deep.CutRange
import Derived.Laws.Bits64
import Derived.WalkSpells
import Derived.WalkLawsBesides
import Derived.WalkSmall
import Derived.Outline
import Derived.Laws.BitsAllLaws
namespace Go.Proofs.YtecnnlppinhmgaaGreatDoor.Ht
open Go

def rng (lo hi : Int) (c : UInt8) : Bool := decide (lo ≤ (c.toNat : Int)) && decide ((c.toNat : Int) ≤ hi)
/-- all of a range -/
def allR (lo hi : Int) (l : List UInt8) : Bool := l.all (rng lo hi)
def upc (c : UInt8) : Bool := rng 65 90 c
def nmc (c : UInt8) : Bool := upc c || rng 97 122 c || rng 48 57 c || c == 45
def lc (c : UInt8) : UInt8 := if upc c then c + 32 else c
def vlc (c : UInt8) : Bool := c == 9 || rng 32 126 c
def spc (c : UInt8) : Bool := c == 32 || c == 9
abbrev Fld := List UInt8 × List UInt8

/-- a text's parts between the separators -/
def parts (sep : List UInt8) : Nat → List UInt8 → List (List UInt8)
  | 0, l => [l]
  | k + 1, l => if Lib.index l sep = -1 then [l] else l.take (Lib.index l sep).toNat :: parts sep k (l.drop ((Lib.index l sep).toNat + sep.length))
def split (sep l : List UInt8) : List (List UInt8) := parts sep (Lib.count l sep) l

theorem parts_eq (sep : List UInt8) : ∀ (k : Nat) (s : ByteArray), (Lib.splitB ⟨sep.toArray⟩ 0 k s).map (·.data.toList) = parts sep k s.data.toList
  | 0, s => rfl
  | k + 1, s => by
    unfold Lib.splitB parts
    have e : Lib.indexB s ⟨sep.toArray⟩ = Lib.index s.data.toList sep := rfl
    rw [e]
    by_cases h : Lib.index s.data.toList sep = -1
    · rw [if_pos (beq_iff_eq.2 h), if_pos h]; rfl
    · rw [if_neg (fun h2 => h (beq_iff_eq.1 h2)), if_neg h, List.map_cons, parts_eq sep k]
      have h1 := Lib.index_room s.data.toList sep (by have := Lib.index_ge s.data.toList sep; omega)
      congr 1
      · rw [Lib.extract_eq]; simp
      · congr 1
        rw [Lib.extract_to_end]
        rfl
theorem split_eq (sep : List UInt8) (s : ByteArray) : (Lib.splitB ⟨sep.toArray⟩ 0 (Lib.countB s ⟨sep.toArray⟩) s).map (·.data.toList) = split sep s.data.toList := parts_eq sep _ s
theorem parts_ne (sep : List UInt8) (k : Nat) (l : List UInt8) : parts sep k l ≠ [] := by
  cases k with
  | zero => simp [parts]
  | succ k => unfold parts; split <;> simp
theorem split_ne (sep l : List UInt8) : split sep l ≠ [] := parts_ne _ _ _
theorem parts_size {sep : List UInt8} : ∀ (k : Nat) (l x : List UInt8), x ∈ parts sep k l → x.length ≤ l.length
  | 0, l, x, h => by simp [parts] at h; subst h; exact Nat.le_refl _
  | k + 1, l, x, h => by
    unfold parts at h
    split at h
    · simp at h; subst h; exact Nat.le_refl _
    · rcases List.mem_cons.1 h with rfl | h
      · rw [List.length_take]; omega
      · have := parts_size k _ x h
        rw [List.length_drop] at this
        omega
theorem split_size {sep l x : List UInt8} (h : x ∈ split sep l) : x.length ≤ l.length := parts_size _ _ _ h
theorem parts_length {sep : List UInt8} : ∀ (k : Nat) (l : List UInt8), (parts sep k l).length ≤ k + 1
  | 0, l => by simp [parts]
  | k + 1, l => by
    unfold parts
    split
    · simp
    · have := parts_length (sep := sep) k (l.drop ((Lib.index l sep).toNat + sep.length))
      simp only [List.length_cons]; omega
theorem split_length (sep l : List UInt8) : (split sep l).length ≤ l.length + 2 := by
  have h1 := parts_length (sep := sep) (Lib.count l sep) l
  have h2 := Lib.count_le l sep
  unfold split
  omega

/-- a name in small letters -/
def lower (n : List UInt8) : List UInt8 × Bool := if n.all nmc = true then (n.map lc, decide (0 < n.length)) else ([], false)
def trim (v : List UInt8) : List UInt8 := Lib.trimS v [32, 9]
/-- before and behind the first colon -/
def name (s : List UInt8) : List UInt8 := (Lib.cut s [58]).1
def value (s : List UInt8) : List UInt8 := (Lib.cut s [58]).2.1
def found (s : List UInt8) : Bool := (Lib.cut s [58]).2.2
/-- a line's field -/
def field (s : List UInt8) : Option Fld := if found s = true ∧ (name s).all nmc = true ∧ name s ≠ [] ∧ (value s).all vlc = true then some ((name s).map lc, trim (value s)) else none

def http : List UInt8 := [72, 84, 84, 80, 47, 49, 46, 49]
def okm (m : List UInt8) : Bool := decide (1 ≤ m.length) && decide (m.length ≤ 16) && allR 65 90 m
def okt (t : List UInt8) : Bool := Lib.hasPrefix t [47] && allR 33 126 t
/-- a first line: method and target -/
def first (s : List UInt8) : Option Fld := match split [32] s with
  | [m, t, v] => if v = http ∧ okm m = true ∧ okt t = true then some (m, t) else none
  | _ => none
def fields : List (List UInt8) → Option (List Fld)
  | [] => some []
  | l :: r => match field l with
    | none => none
    | some f => match fields r with
      | none => none
      | some fs => some (f :: fs)

theorem first_three {l m t v : List UInt8} (h : split [32] l = [m, t, v]) : first l = if v = http ∧ okm m = true ∧ okt t = true then some (m, t) else none := by
  unfold first
  rw [h]
theorem first_not {l : List UInt8} (h : (split [32] l).length ≠ 3) : first l = none := by
  unfold first
  split
  · rename_i e; rw [e] at h; simp at h
  · rfl
theorem three {α : Type} {l : List α} (h : l.length = 3) : ∃ a b c, l = [a, b, c] := by
  match l, h with
  | [a, b, c], _ => exact ⟨a, b, c, rfl⟩

inductive Er where | bad | large
deriving DecidableEq
inductive Hd where | no (e : Er) | ok (m t : List UInt8) (fs : List Fld)
deriving DecidableEq
/-- a head -/
def head (s : List UInt8) : Hd := match split [13, 10] s with
  | [] => .no .bad
  | l :: ls => match first l with
    | none => .no .bad
    | some mt => match fields ls with
      | none => .no .bad
      | some fs => if 32 < fs.length then .no .large else .ok mt.1 mt.2 fs

def cl : List UInt8 := [99, 111, 110, 116, 101, 110, 116, 45, 108, 101, 110, 103, 116, 104]
def te : List UInt8 := [116, 114, 97, 110, 115, 102, 101, 114, 45, 101, 110, 99, 111, 100, 105, 110, 103]
def cnt (fs : List Fld) (n : List UInt8) : Nat := (fs.filter fun f => f.1 == n).length
def get (fs : List Fld) (n : List UInt8) : Option (List UInt8) := (fs.find? fun f => f.1 == n).map (·.2)
inductive Sz where | no (e : Er) | ok (n : Nat)
deriving DecidableEq
def dec (l : List UInt8) : Nat := l.foldl (fun n c => n * 10 + (c.toNat - 48)) 0
/-- how long a body is -/
def size (fs : List Fld) : Sz := if 0 < cnt fs te ∨ 1 < cnt fs cl then .no .bad else match get fs cl with
  | none => .ok 0
  | some s => if 1 ≤ s.length ∧ s.length ≤ 9 ∧ allR 48 57 s = true then (if 1024 < dec s then .no .large else .ok (dec s)) else .no .bad

def crlf2 : List UInt8 := [13, 10, 13, 10]
inductive Res where | none | no (e : Er) | ok (m t : List UInt8) (fs : List Fld) (body : List UInt8) (n : Nat)
deriving DecidableEq
/-- the request with which bytes begin -/
def parse (b : List UInt8) : Res :=
  if Lib.index (b.take 2048) crlf2 = -1 then (if 2048 ≤ b.length then .no .large else .none) else
  match head (b.take (Lib.index (b.take 2048) crlf2).toNat) with
  | .no e => .no e
  | .ok m t fs => match size fs with
    | .no e => .no e
    | .ok k => if b.length - ((Lib.index (b.take 2048) crlf2).toNat + 4) < k then .none else
      .ok m t fs ((b.drop ((Lib.index (b.take 2048) crlf2).toNat + 4)).take k) ((Lib.index (b.take 2048) crlf2).toNat + 4 + k)

/-- "GET /a HTTP/1.1\r\nHost: x\r\n\r\nrest" -/
def small : List UInt8 := [71, 69, 84, 32, 47, 97, 32, 72, 84, 84, 80, 47, 49, 46, 49, 13, 10, 72, 111, 115, 116, 58, 32, 120, 13, 10, 13, 10, 114, 101, 115, 116]
theorem small_parse : parse small = .ok [71, 69, 84] [47, 97] [([104, 111, 115, 116], [120])] [] 28 := by decide +kernel
end Go.Proofs.YtecnnlppinhmgaaGreatDoor.Ht
namespace Go.Proofs.YtecnnlppinhmgaaGreatDoor.HtW
open Go.RowKit Go.Proofs.YtecnnlppinhmgaaGreatDoor Go.Proofs.YtecnnlppinhmgaaGreatDoor.Ht

theorem infoByte : (Tryz.prog.info? 5).map (fun i => (i.zero, i.size, i.bytes)) = some (some (.int .u8 0), 1, 1) := by kernel_rfl
theorem info_parts {o : Option TypeInfo} {z : Value} {s b : Nat} (h : o.map (fun i => (i.zero, i.size, i.bytes)) = some (some z, s, b)) : ∃ i0, o = some i0 ∧ i0.zero = some z ∧ i0.size = s ∧ i0.bytes = b := by
  cases o with
  | none => cases h
  | some i => simp at h; exact ⟨i, rfl, h.1, h.2.1, h.2.2⟩
theorem addr_add (b off k : Nat) : (⟨b, off, none⟩ : Addr).add k = ⟨b, off + k, none⟩ := by
  unfold Addr.add; split <;> simp_all
/-- fields, as cells -/
def fcells (fs : List Fld) : List Value := fs.flatMap fun p => [.string ⟨p.1.toArray⟩, .string ⟨p.2.toArray⟩]
theorem fcells_snoc (fs : List Fld) (n v : List UInt8) : fcells (fs ++ [(n, v)]) = fcells fs ++ [.string ⟨n.toArray⟩, .string ⟨v.toArray⟩] := by simp [fcells]
theorem fcells_length (fs : List Fld) : (fcells fs).length = fs.length * 2 := by
  induction fs with
  | nil => rfl
  | cons p r ih => simp only [fcells, List.flatMap_cons, List.length_append, List.length_cons] at ih ⊢; simp only [List.length_nil]; omega
theorem fcells_get {fs : List Fld} : ∀ {j : Nat} {p : Fld}, fs[j]? = some p → (fcells fs)[j * 2]? = some (.string ⟨p.1.toArray⟩) ∧ (fcells fs)[j * 2 + 1]? = some (.string ⟨p.2.toArray⟩) := by
  induction fs with
  | nil => intro j p h; simp at h
  | cons q r ih =>
    intro j p h
    cases j with
    | zero => simp at h; subst h; simp [fcells]
    | succ j =>
      have := ih (j := j) (p := p) (by simpa using h)
      simp only [fcells, List.flatMap_cons] at this ⊢
      rw [show (j + 1) * 2 = j * 2 + 2 by omega, show j * 2 + 2 + 1 = (j * 2 + 1) + 2 by omega]
      simpa using this
/-- fields lie at a -/
def Fs (w : World) (a : Option Addr) (fs : List Fld) : Prop :=
  fs = [] ∨ ∃ b o, a = some ⟨b, o, none⟩ ∧ b < w.heap.size ∧ ∀ (j : Nat) p, fs[j]? = some p → w.cell? ⟨b, o + j * 2, none⟩ = some (.string ⟨p.1.toArray⟩) ∧ w.cell? ⟨b, o + j * 2 + 1, none⟩ = some (.string ⟨p.2.toArray⟩)
theorem Fs.below {w w' : World} {a : Option Addr} {fs : List Fld} (h : Fs w a fs) (hb : Below w.heap.size w w') : Fs w' a fs :=
  h.imp id fun ⟨b, o, h1, h2, h3⟩ => ⟨b, o, h1, Nat.lt_of_lt_of_le h2 hb.size, fun j p hj => ⟨(hb.cell (p := ⟨b, _, none⟩) h2).trans (h3 j p hj).1, (hb.cell (p := ⟨b, _, none⟩) h2).trans (h3 j p hj).2⟩⟩
theorem Fs.at {w : World} {a : Option Addr} {fs : List Fld} (hp : Fs w a fs) {k : Nat} {q : Fld} (h : fs[k]? = some q) : ∃ b o, a = some ⟨b, o, none⟩ ∧ b < w.heap.size ∧ w.cell? ⟨b, o + k * 2, none⟩ = some (.string ⟨q.1.toArray⟩) ∧ w.cell? ⟨b, o + k * 2 + 1, none⟩ = some (.string ⟨q.2.toArray⟩) := by
  rcases hp with hp | ⟨b, o, h1, h2, h3⟩
  · subst hp; cases h
  · exact ⟨b, o, h1, h2, h3 k q h⟩
theorem cells_two (w : World) (v0 v1 : Value) (t : TypeId) : ∀ (j : Nat) u, [v0, v1][j]? = some u → (w.alloc (.cells #[v0, v1] t)).cell? ((⟨w.heap.size, 0, none⟩ : Addr).add j) = some u := by
  intro j u hj
  match j, hj with
  | 0, hj => simp at hj; subst hj; simp [Addr.add]
  | 1, hj => simp at hj; subst hj; simp [Addr.add]

/-- the bytes l lie at a -/
def Bs (w : World) (a : Option Addr) (l : List UInt8) (c : Nat) : Prop :=
  l.length ≤ c ∧ (a = none → c = 0) ∧ (l = [] ∨ ∃ b o, a = some ⟨b, o, none⟩ ∧ b < w.heap.size ∧ ∀ j x, l[j]? = some x → w.cell? ⟨b, o + j, none⟩ = some (.int .u8 (x.toNat : Int)))
theorem Bs.below {w w' : World} {a : Option Addr} {l : List UInt8} {c : Nat} (h : Bs w a l c) (hb : Below w.heap.size w w') : Bs w' a l c :=
  ⟨h.1, h.2.1, h.2.2.imp id fun ⟨b, o, h1, h3, h4⟩ => ⟨b, o, h1, Nat.lt_of_lt_of_le h3 hb.size, fun j x hx => (hb.cell (p := ⟨b, o + j, none⟩) h3).trans (h4 j x hx)⟩⟩
theorem Bs.cells {w : World} {p : Addr} {l : List UInt8} {c : Nat} (h : Bs w (some p) l c) : ∀ (j : Nat) u, (Lib.byteCells l)[j]? = some u → w.cell? (p.add j) = some u := by
  intro j u hj
  obtain ⟨x, hx, rfl⟩ : ∃ x, l[j]? = some x ∧ Value.int .u8 (x.toNat : Int) = u := by
    simp only [Lib.byteCells, List.getElem?_map, Option.map_eq_some_iff] at hj; exact hj
  rcases h.2.2 with h0 | ⟨b, o, hp, hlt, hc⟩
  · subst h0; simp at hx
  · obtain rfl : p = ⟨b, o, none⟩ := by simpa using hp
    rw [addr_add]
    exact hc j x hx
theorem bs_of_own {w : World} {base : Nat} {e : TypeId} {v : Value} {l : List UInt8} (h : w.ownsRow base e 1 v l.length (Lib.byteCells l)) :
    ∃ a c, v = .slice a l.length c ∧ Bs w a l c := by
  rcases h.2 with ⟨rfl, h0⟩ | ⟨g, cap, cur, hv, hb, hg, hn, hm, hcs, htk⟩
  · have h0 : l = [] := List.eq_nil_of_length_eq_zero h0
    subst h0
    exact ⟨none, 0, rfl, Nat.le_refl _, fun _ => rfl, .inl rfl⟩
  · refine ⟨some ⟨g, 0, none⟩, cap, hv, hn, (fun h => by cases h), .inr ⟨g, 0, rfl, (Array.getElem?_eq_some_iff.1 hg).1, fun j x hx => ?_⟩⟩
    have := h.cells (g := g) (by rw [hv]; rfl) j (.int .u8 (x.toNat : Int)) (by simp [Lib.byteCells, hx])
    rwa [addr_add] at this
/-- a part of bytes -/
theorem Bs.part {w : World} {b o : Nat} {l : List UInt8} {c : Nat} (h : Bs w (some ⟨b, o, none⟩) l c) (i n : Nat) (hn : i + n ≤ l.length) (c' : Nat) (hc : n ≤ c') : Bs w (some ⟨b, o + i, none⟩) ((l.drop i).take n) c' := by
  refine ⟨by rw [List.length_take]; omega, (fun h => by cases h), ?_⟩
  rcases h.2.2 with h0 | ⟨b', o', hp, hlt, hcs⟩
  · left; subst h0; simp
  · cases hp
    refine .inr ⟨b, o + i, rfl, hlt, fun j x hx => ?_⟩
    rw [List.getElem?_take] at hx
    split at hx
    · rw [List.getElem?_drop] at hx
      rw [Nat.add_assoc]
      exact hcs _ x hx
    · cases hx
/-- bytes as a string -/
theorem to_string {w : World} {a : Option Addr} {l : List UInt8} {c : Nat} (h : Bs w a l c) : (convert 24 9 (.slice a l.length c)).run Tryz.prog w = .ok (.string ⟨l.toArray⟩) w := by
  cases a with
  | none =>
    obtain rfl := h.2.1 rfl
    obtain rfl : l = [] := List.eq_nil_of_length_eq_zero (by have := h.1; omega)
    kernel_rfl
  | some p =>
    refine run_convert_bytes_back w 24 9 5 p c l Tryz.underlying24 Tryz.underlying5 Tryz.underlying9 fun j hj => ?_
    exact h.cells j _ (by simp [Lib.byteCells, List.getElem?_eq_getElem hj])

/-- an error's value -/
abbrev ev (a : Addr) : Value := .iface 224 (.pointer (some a))
def erv (aR aL : Addr) : Er → Value
  | .bad => ev aR
  | .large => ev aL
end Go.Proofs.YtecnnlppinhmgaaGreatDoor.HtW
namespace Go.Proofs.YtecnnlppinhmgaaGreatDoor.HtX
open Go.RowKit Go.Proofs.YtecnnlppinhmgaaGreatDoor Go.Proofs.YtecnnlppinhmgaaGreatDoor.Ht Go.Proofs.YtecnnlppinhmgaaGreatDoor.HtW

theorem own_fresh (w : World) (base : Nat) (h : base ≤ w.heap.size) : (w.alloc (.cells #[] 5)).ownsRow base 5 1 (.slice (some ⟨w.heap.size, 0, none⟩) 0 0) 0 [] :=
  ⟨rfl, .inr ⟨w.heap.size, 0, #[], rfl, h, heap_alloc_new _ _, Nat.le_refl _, by unfold maxLen; omega, rfl, rfl⟩⟩
theorem byteCells_append (l r : List UInt8) : Lib.byteCells (l ++ r) = Lib.byteCells l ++ Lib.byteCells r := by simp [Lib.byteCells]
theorem byteCells_length (l : List UInt8) : (Lib.byteCells l).length = l.length := by simp [Lib.byteCells]
theorem byteCells_one (l : List UInt8) : ∀ u ∈ Lib.byteCells l, u.oneCell' = true := by
  intro u hu
  simp only [Lib.byteCells, List.mem_map] at hu
  obtain ⟨x, _, rfl⟩ := hu
  rfl
theorem run_append_bytes (w : World) (base : Nat) (v : Value) (l r : List UInt8) (hown : w.ownsRow base 5 1 v l.length (Lib.byteCells l)) (aR : Option Addr) (cR : Nat) (hB : Bs w aR r cR) (hbase : base ≤ w.heap.size) (hlen : l.length + r.length ≤ 140737488355328) (ty : TypeId) :
    ∃ ar cr w', (Builtin.append_ #[24, 24] ty #[v, .slice aR r.length cR]).run Tryz.prog w = .ok (.slice ar (l.length + r.length) cr) w' ∧ w'.ownsRow base 5 1 (.slice ar (l.length + r.length) cr) (l ++ r).length (Lib.byteCells (l ++ r)) ∧ w.grownBy w' v.ownBlock ∧ Below base w w' := by
  obtain ⟨i0, hi, hz0, hz1, hz2⟩ := info_parts infoByte
  by_cases hr : r = []
  · subst hr
    obtain ⟨a, c, rfl, hb⟩ := bs_of_own hown
    refine ⟨a, c, w, ?_, by simpa using hown, ⟨rfl, rfl, rfl, Nat.le_refl _, fun _ _ _ => rfl⟩, Below.refl _ _⟩
    refine run_append_nothing w _ _ _ 5 i0 Tryz.underlying24 hi _ _ _ hb.1 _ ?_
    cases aR with
    | none => rw [hB.2.1 rfl]; exact Src.ofNil w Tryz.underlying24 0
    | some p => exact Src.ofSlice w Tryz.underlying24 p 0 cR [] (by simp) (fun j u h => by cases h) (fun u h => by cases h)
  · obtain ⟨p, rfl⟩ : ∃ p, aR = some p := by
      rcases hB.2.2 with h | ⟨b', o', h, _⟩
      · exact absurd h hr
      · exact ⟨_, h⟩
    obtain ⟨v', w', h1, h2, h3, _⟩ := run_append_own (P := Tryz.prog) w base 24 ty 5 i0 _ 1 1 Tryz.underlying24 hi hz0 hz1 hz2 rfl (by decide) v l.length (Lib.byteCells l) hown p r.length cR (Lib.byteCells r) (by rw [byteCells_length, Nat.mul_one]) hB.cells (byteCells_one r) (by unfold maxLen; omega) (by omega) hbase
    rw [← byteCells_append, ← List.length_append] at h2
    obtain ⟨a, c, rfl, hb⟩ := bs_of_own h2
    rw [List.length_append] at h1
    refine ⟨a, c, w', h1, by rw [← List.length_append]; exact h2, h3, (Below.refl base w).grown h3 hbase fun k hk => ?_⟩
    exact (hown.lt k hk).1
theorem wpList_append_bytes {ops : Array Oper} {rest : List Oper} {o : Oper} {a : Act} {Q : Exit → Act → World → Prop} (w : World) (hg : o.guard = none) (s x : Operand) (hop : o.op = Op.call { callee := Callee.builtin Builtin.append, args := #[s, x], argTypes := #[24, 24] })
    (base : Nat) (v : Value) (l r : List UInt8) (hown : w.ownsRow base 5 1 v l.length (Lib.byteCells l)) (aR : Option Addr) (cR : Nat) (hB : Bs w aR r cR) (hbase : base ≤ w.heap.size) (hlen : l.length + r.length ≤ 140737488355328)
    (hs : a.eval s = v) (hx : a.eval x = .slice aR r.length cR)
    (hK : ∀ ar cr w', w'.ownsRow base 5 1 (.slice ar (l.length + r.length) cr) (l ++ r).length (Lib.byteCells (l ++ r)) → w.grownBy w' v.ownBlock → Below base w w' → wpList Tryz.prog ops Q rest (a.put o.dst (.slice ar (l.length + r.length) cr)) w') :
    wpList Tryz.prog ops Q (o :: rest) a w := by
  refine wpList_plain hg fun K hK' => ?_
  obtain ⟨ar, cr, w', hrun, h1, h2, h3⟩ := run_append_bytes w base v l r hown aR cR hB hbase hlen o.type
  unfold Oper.wp
  simp [execOp, hop, resolve, invoke, builtin, hs, hx, hrun, Result.andThen]
  exact hK' _ _ (hK ar cr w' h1 h2 h3)
theorem bs_own {w : World} {base : Nat} {a : Option Addr} {n c : Nat} {l : List UInt8} (h : w.ownsRow base 5 1 (.slice a n c) l.length (Lib.byteCells l)) : Bs w a l c ∧ n = l.length := by
  obtain ⟨a', c', hv, hb⟩ := bs_of_own h
  cases hv
  exact ⟨hb, rfl⟩
end Go.Proofs.YtecnnlppinhmgaaGreatDoor.HtX
namespace Go.Proofs.YtecnnlppinhmgaaGreatDoor.App
open Go.RowKit Go.Proofs.YtecnnlppinhmgaaGreatDoor Go.Proofs.YtecnnlppinhmgaaGreatDoor.HtW Go.Proofs.YtecnnlppinhmgaaGreatDoor.HtX

/-- append onto nil -/
theorem append_nil {ops : Array Oper} {rest : List Oper} {o : Oper} {a : Act} {Q : Exit → Act → World → Prop} (w : World) (hg : o.guard = none) (s x : Operand) (hop : o.op = Op.call { callee := Callee.builtin Builtin.append, args := #[s, x], argTypes := #[24, 24] })
    (base : Nat) (r : List UInt8) (aR : Option Addr) (cR : Nat) (hB : Bs w aR r cR) (hbase : base ≤ w.heap.size) (hlen : r.length ≤ 140737488355328)
    (hs : a.eval s = .slice none 0 0) (hx : a.eval x = .slice aR r.length cR)
    (hK : ∀ ar cr w', w'.ownsRow base 5 1 (.slice ar r.length cr) r.length (Lib.byteCells r) → Below base w w' → wpList Tryz.prog ops Q rest (a.put o.dst (.slice ar r.length cr)) w') :
    wpList Tryz.prog ops Q (o :: rest) a w := by
  refine wpList_append_bytes w hg s x hop base _ [] r ⟨rfl, .inl ⟨rfl, rfl⟩⟩ aR cR hB hbase (by simpa using hlen) hs hx ?_
  intro ar cr w' h1 _ h3
  rw [List.length_nil, Nat.zero_add, List.nil_append] at *
  exact hK ar cr w' h1 h3
/-- append onto a row of its own -/
theorem append_more {ops : Array Oper} {rest : List Oper} {o : Oper} {a : Act} {Q : Exit → Act → World → Prop} (w : World) (hg : o.guard = none) (s x : Operand) (hop : o.op = Op.call { callee := Callee.builtin Builtin.append, args := #[s, x], argTypes := #[24, 24] })
    (base : Nat) (l r : List UInt8) {v : Value} (hown : w.ownsRow base 5 1 v l.length (Lib.byteCells l)) (aR : Option Addr) (cR : Nat) (hB : Bs w aR r cR) (hbase : base ≤ w.heap.size) (hlen : l.length + r.length ≤ 140737488355328)
    (hs : a.eval s = v) (hx : a.eval x = .slice aR r.length cR)
    (hK : ∀ ar cr w' n, n = (l ++ r).length → w'.ownsRow base 5 1 (.slice ar n cr) (l ++ r).length (Lib.byteCells (l ++ r)) → Below base w w' → wpList Tryz.prog ops Q rest (a.put o.dst (.slice ar n cr)) w') :
    wpList Tryz.prog ops Q (o :: rest) a w := by
  refine wpList_append_bytes w hg s x hop base _ l r hown aR cR hB hbase hlen hs hx ?_
  intro ar cr w' h1 _ h3
  exact hK ar cr w' _ List.length_append.symm h1 h3
/-- one byte in a new row -/
theorem one_bs (w : World) (x : UInt8) : Bs (w.alloc (.cells #[.int .u8 (x.toNat : Int)] 5)) (some ⟨w.heap.size, 0, none⟩) [x] 1 := by
  refine ⟨by simp, (fun h => by cases h), .inr ⟨w.heap.size, 0, rfl, by simp, fun j y hj => ?_⟩⟩
  cases j with
  | zero => simp at hj; subst hj; rw [Lib.cell_of_heap (heap_alloc_new _ _)]; rfl
  | succ j => simp at hj
theorem own_alloc {w : World} {base : Nat} {e : TypeId} {size : Nat} {v : Value} {n : Nat} {xs : List Value} (h : w.ownsRow base e size v n xs) (o : Obj) : (w.alloc o).ownsRow base e size v n xs := Com.own_below h ((Below.refl _ _).alloc (Nat.le_refl _) _)
/-- append of one byte, laid in a new row, onto a row of its own -/
theorem append_one {ops : Array Oper} {rest : List Oper} {o : Oper} {a : Act} {Q : Exit → Act → World → Prop} (w : World) (hg : o.guard = none) (s x : Operand) (hop : o.op = Op.call { callee := Callee.builtin Builtin.append, args := #[s, x], argTypes := #[24, 24] })
    (base : Nat) (l : List UInt8) (b : UInt8) {z : Int} (hz : z = (b.toNat : Int)) {v : Value} (hown : w.ownsRow base 5 1 v l.length (Lib.byteCells l)) (hbase : base ≤ w.heap.size) (hlen : l.length + 1 ≤ 140737488355328)
    (hs : a.eval s = v) (hx : a.eval x = .slice (some ⟨w.heap.size, 0, none⟩) 1 1)
    (hK : ∀ ar cr w' n, n = (l ++ [b]).length → w'.ownsRow base 5 1 (.slice ar n cr) (l ++ [b]).length (Lib.byteCells (l ++ [b])) → Below base w w' → wpList Tryz.prog ops Q rest (a.put o.dst (.slice ar n cr)) w') :
    wpList Tryz.prog ops Q (o :: rest) a (w.alloc (.cells #[.int .u8 z] 5)) := by
  subst hz
  refine append_more _ hg s x hop base l [b] (own_alloc hown _) _ 1 (one_bs w b) (by simp; omega) hlen hs hx ?_
  intro ar cr w' n hn h1 h2
  exact hK ar cr w' n hn h1 (((Below.refl base w).alloc hbase _).trans h2)
end Go.Proofs.YtecnnlppinhmgaaGreatDoor.App
namespace Go.Proofs.YtecnnlppinhmgaaGreatDoor.FrA
open Go.RowKit Go.Proofs.YtecnnlppinhmgaaGreatDoor Go.Proofs.YtecnnlppinhmgaaGreatDoor.HtW Go.Proofs.YtecnnlppinhmgaaGreatDoor.HtX Go.Proofs.YtecnnlppinhmgaaGreatDoor.App

theorem bs_at {w : World} {a : Option Addr} {l : List UInt8} {c : Nat} (h : Bs w a l c) {k : Nat} {x : UInt8} (hk : l[k]? = some x) : ∃ b o, a = some ⟨b, o, none⟩ ∧ b < w.heap.size ∧ w.cell? ⟨b, o + k, none⟩ = some (.int .u8 (x.toNat : Int)) := by
  rcases h.2.2 with h0 | ⟨b, o, h1, h2, h3⟩
  · rw [h0] at hk; simp at hk
  · exact ⟨b, o, h1, h2, h3 k x hk⟩
theorem fnv_snoc (l : List UInt8) (c : UInt8) : Fp.fnv (l ++ [c]) = ((Fp.fnv l ^^^ c.toNat) * 16777619) % 4294967296 := by
  unfold Fp.fnv; rw [List.foldl_append, List.foldl_cons, List.foldl_nil]
theorem fnv_lt (l : List UInt8) : Fp.fnv l < 4294967296 := by
  rcases List.eq_nil_or_concat l with rfl | ⟨t, c, rfl⟩
  · exact (show (2166136261 : Nat) < 4294967296 by decide)
  · rw [List.concat_eq_append, fnv_snoc]; omega
theorem take_snoc {l : List UInt8} {k : Nat} (h : k < l.length) : l.take (k + 1) = l.take k ++ [l[k]] := List.take_succ_eq_append_getElem h

theorem xor64 (s x : Nat) (hs : s < 4294967296) (hx : x < 256) : (IntKind.u64.wrap (bits .xor .u64 (s : Int) (IntKind.u64.wrap (x : Int)) * 16777619)).tmod 4294967296 = ((((s ^^^ x) * 16777619) % 4294967296 : Nat) : Int) := by
  have hlt : s ^^^ x < 4294967296 := Nat.xor_lt_two_pow (n := 32) hs (by omega)
  rw [IntWalk.u64_in (x : Int) ⟨by omega, by omega⟩, bits_xor_u64_nat s x (by omega) (by omega), IntWalk.u64_in _ ⟨by omega, by omega⟩]
  rw [show ((s ^^^ x : Nat) : Int) * 16777619 = (((s ^^^ x) * 16777619 : Nat) : Int) by omega, Int.tmod_eq_emod_of_nonneg (by omega)]
  omega
theorem below_drewN {b : Nat} {w w' : World} (h : Below b w w') : ∀ n, Below b w (w'.drewN n)
  | 0 => h
  | n + 1 => (below_drewN h n).drew
theorem xor32 (s x : Nat) (hs : s < 4294967296) (hx : x < 256) : bits .xor .u32 (s : Int) ((x : Int) % 4294967296) * 16777619 % 4294967296 = ((((s ^^^ x) * 16777619) % 4294967296 : Nat) : Int) := by
  have e : (x : Int) % 4294967296 = ((x : Nat) : Int) := by omega
  rw [e, u32_xor_nat s x hs (by omega)]
  omega
set_option maxHeartbeats 1000000 in
set_option maxRecDepth 100000 in
theorem sum (l : List UInt8) {a : Option Addr} (c : Nat) (w : World) (hb : Bs w a l c) (hl : l.length ≤ 140737488351232) :
    Calls Tryz.prog 120 #[.slice a l.length c] w fun e w' => e = .returned (.int .u32 (Fp.fnv l : Int)) ∧ w = w' := by
  have HB := Lib.hid hb; clear hb
  go_enter Tryz.func120, Tryz.ntmps120
  go_wp2_with fail
  go_loopg [3, 8] l.length (fun g v3 v wr => ∃ k s : Nat, k + g = l.length ∧ v = .int .i64 k ∧ v3 = .int .u32 (s : Int) ∧ Hid (s = Fp.fnv (l.take k)) ∧ w = wr)
  case atStart => exact ⟨0, 2166136261, by omega, rfl, rfl, rfl, rfl⟩
  case round =>
    obtain ⟨k, s, hkg, rfl, rfl, HS, rfl⟩ := hrel
    have HG := Lib.hid hkg; clear hkg
    by_cases hlt : k < l.length
    · obtain ⟨x, hx⟩ : ∃ x, l[k]? = some x := ⟨l[k], List.getElem?_eq_getElem hlt⟩
      obtain ⟨b, o, rfl, hb, ck⟩ := bs_at HB.out hx
      have hs : s < 4294967296 := by rw [HS.out]; exact fnv_lt _
      have HN := Lib.hid (show bits .xor .u32 (s : Int) ((x.toNat : Int) % 4294967296) * 16777619 % 4294967296 = ((Fp.fnv (l.take (k + 1)) : Nat) : Int) by
        rw [xor32 s x.toNat hs (UInt8.toNat_lt x), List.take_add_one, hx, Option.toList_some, fnv_snoc, ← HS.out])
      clear hx
      go_wp2_with fail
      go_roundg (l.length - (k + 1))
      case measure => have := HG.out; omega
      case rel => exact ⟨k + 1, _, by have := HG.out; omega, by go_num, by rw [HN.out], rfl, rfl⟩
    · have hk : l.length ≤ k := by omega
      go_wp2_with fail
      go_ret
      have hs := HS.out
      rw [List.take_of_length_le hk] at hs
      subst hs
      exact ⟨rfl, rfl⟩

set_option maxHeartbeats 1000000 in
set_option maxRecDepth 100000 in
theorem refSum (l : List UInt8) {a : Option Addr} (c : Nat) (w : World) (hb : Bs w a l c) (hl : l.length ≤ 140737488351232) :
    Calls Tryz.prog 47 #[.slice a l.length c] w fun e w' => e = .returned (.int .u32 (Fp.fnv l : Int)) ∧ w = w' := by
  have HB := Lib.hid hb; clear hb
  go_enter Tryz.func47, Tryz.ntmps47
  go_wp2_with fail
  go_loopg [3, 8] l.length (fun g v3 v wr => ∃ k s : Nat, k + g = l.length ∧ v = .int .i64 k ∧ v3 = .int .u64 (s : Int) ∧ Hid (s = Fp.fnv (l.take k)) ∧ w = wr)
  case atStart => exact ⟨0, 2166136261, by omega, rfl, rfl, rfl, rfl⟩
  case round =>
    obtain ⟨k, s, hkg, rfl, rfl, HS, rfl⟩ := hrel
    have HG := Lib.hid hkg; clear hkg
    have hs : s < 4294967296 := by rw [HS.out]; exact fnv_lt _
    by_cases hlt : k < l.length
    · obtain ⟨x, hx⟩ : ∃ x, l[k]? = some x := ⟨l[k], List.getElem?_eq_getElem hlt⟩
      obtain ⟨b, o, rfl, hb, ck⟩ := bs_at HB.out hx
      have HN := Lib.hid (show (IntKind.u64.wrap (bits .xor .u64 (s : Int) (IntKind.u64.wrap (x.toNat : Int)) * 16777619)).tmod 4294967296 = ((Fp.fnv (l.take (k + 1)) : Nat) : Int) by
        rw [xor64 s x.toNat hs (UInt8.toNat_lt x), List.take_add_one, hx, Option.toList_some, fnv_snoc, ← HS.out])
      clear hx
      go_wp2_with fail
      go_roundg (l.length - (k + 1))
      case measure => have := HG.out; omega
      case rel => exact ⟨k + 1, _, by have := HG.out; omega, by go_num, by rw [HN.out], rfl, rfl⟩
    · have hk : l.length ≤ k := by omega
      go_wp2_with fail
      go_ret
      have hs := HS.out
      rw [List.take_of_length_le hk] at hs
      subst hs
      exact ⟨rfl, rfl⟩

/-- equal lists of bytes -/
def eqB (l r : List UInt8) : Bool := l == r
set_option maxHeartbeats 1000000 in
set_option maxRecDepth 100000 in
theorem equal (l r : List UInt8) {a a' : Option Addr} (c c' : Nat) (w : World) (hb : Bs w a l c) (hb' : Bs w a' r c') (hl : l.length ≤ 140737488351232) (hr : r.length ≤ 140737488351232) :
    Calls Tryz.prog 53 #[.slice a l.length c, .slice a' r.length c'] w fun e w' => e = .returned (.bool (eqB l r)) ∧ Below w.heap.size w w' := by
  have HB := Lib.hid hb; clear hb
  have HB' := Lib.hid hb'; clear hb'
  go_enter Tryz.func53, Tryz.ntmps53
  by_cases hne : l.length = r.length
  · have e1 : ((l.length : Int) != (r.length : Int)) = false := by rw [hne]; simp
    have HN := Lib.hid hne; clear hne
    go_wp2_with fail
    go_loopg [13] l.length (fun g v wr => ∃ k : Nat, k + g = l.length ∧ v = .int .i64 k ∧ Hid (l.take k = r.take k) ∧ Below w.heap.size w wr)
    case atStart => exact ⟨0, by omega, rfl, rfl, Below.refl _ _⟩
    case round =>
      obtain ⟨k, hkg, rfl, HK, hbw⟩ := hrel
      have HG := Lib.hid hkg; clear hkg
      have HBW := Lib.hid hbw
      by_cases hlt : k < l.length
      · obtain ⟨x, hx⟩ : ∃ x, l[k]? = some x := ⟨l[k], List.getElem?_eq_getElem hlt⟩
        obtain ⟨y, hy⟩ : ∃ y, r[k]? = some y := ⟨r[k]'(by have := HN.out; omega), List.getElem?_eq_getElem _⟩
        obtain ⟨b, o, rfl, hb, ck⟩ := bs_at (HB.out.below hbw) hx
        obtain ⟨b', o', rfl, hb', ck'⟩ := bs_at (HB'.out.below hbw) hy
        have hlt' : k < r.length := by have := HN.out; omega
        go_upto_region 6 with fail
        go_quiet (fail)
        by_cases hxy : x = y
        · have ex : ((x.toNat : Int) != (y.toNat : Int)) = false := by rw [hxy]; simp
          have HX := Lib.hid hxy
          have HT := Lib.hid (show l.take (k + 1) = r.take (k + 1) by rw [List.take_add_one, List.take_add_one, hx, hy, HK.out, hxy])
          clear hxy hx hy
          go_wp2_with fail
          go_roundg (l.length - (k + 1))
          case measure => have := HG.out; omega
          case rel => exact ⟨k + 1, by have := HG.out; omega, by go_num, HT.out, below_drewN HBW.out _⟩
        · have hq : eqB l r = false := by
            unfold eqB
            rw [beq_eq_false_iff_ne]
            rintro rfl
            exact hxy (Option.some.inj (hx.symm.trans hy))
          have ex : ((x.toNat : Int) != (y.toNat : Int)) = true := by
            rw [bne_iff_ne]
            intro h
            exact hxy (UInt8.toNat_inj.1 (by omega))
          have HX := Lib.hid hxy
          clear hxy hx hy
          go_wp2_with fail
          go_ret
          exact ⟨by rw [hq]; rfl, below_drewN HBW.out _⟩
      · have hk : l.length ≤ k := by omega
        go_wp2_with fail
        go_ret
        have h1 := HK.out
        rw [List.take_of_length_le hk, List.take_of_length_le (by have := HN.out; omega)] at h1
        exact ⟨by rw [h1]; simp [eqB], HBW.out⟩
  · have e1 : ((l.length : Int) != (r.length : Int)) = true := by
      rw [bne_iff_ne]
      intro h
      exact hne (by omega)
    have hq : eqB l r = false := by
      unfold eqB
      rw [beq_eq_false_iff_ne]
      rintro rfl
      exact hne rfl
    have HN := Lib.hid hne; clear hne
    go_wp2_with fail
    go_ret
    exact ⟨by rw [hq]; rfl, Below.refl _ _⟩
end Go.Proofs.YtecnnlppinhmgaaGreatDoor.FrA
namespace Go.Proofs.YtecnnlppinhmgaaGreatDoor.ShaA
open Go.RowKit Go.Proofs.YtecnnlppinhmgaaGreatDoor Go.Proofs.YtecnnlppinhmgaaGreatDoor.Sha

abbrev w32 (x : Nat) : Value := .int .u32 (x : Int)
theorem ret_int {k : IntKind} {a b : Int} (h : a = b) : Ending.returned (.int k a) = .returned (.int k b) := by rw [h]
theorem or32 (x n : Nat) (hx : x < 4294967296) : bits .or .u32 ((x : Int) / 2 ^ n) ((x : Int) * 2 ^ (32 - n) % 4294967296) = (rotr x n : Nat) := by
  have e1 : ((x : Int) / 2 ^ n) = ((x / 2 ^ n : Nat) : Int) := by rw [Int.natCast_ediv, Int.natCast_pow]; rfl
  have e2 : ((x : Int) * 2 ^ (32 - n) % 4294967296) = ((x * 2 ^ (32 - n) % 4294967296 : Nat) : Int) := by rw [Int.natCast_emod, Int.natCast_mul, Int.natCast_pow]; rfl
  rw [e1, e2, u32_or_nat _ _ (Nat.lt_of_le_of_lt (Nat.div_le_self _ _) hx) (Nat.mod_lt _ (by decide))]
  unfold rotr
  rw [Nat.shiftRight_eq_div_pow, Nat.shiftLeft_eq]
theorem or32' (x n : Nat) (hx : x < 4294967296) : bits .or .u32 ((x : Int) * 2 ^ (32 - n) % 4294967296) ((x : Int) / 2 ^ n) = (rotr x n : Nat) := by
  rw [← or32 x n hx]
  have e1 : ((x : Int) / 2 ^ n) = ((x / 2 ^ n : Nat) : Int) := by rw [Int.natCast_ediv, Int.natCast_pow]; rfl
  have e2 : ((x : Int) * 2 ^ (32 - n) % 4294967296) = ((x * 2 ^ (32 - n) % 4294967296 : Nat) : Int) := by rw [Int.natCast_emod, Int.natCast_mul, Int.natCast_pow]; rfl
  rw [e1, e2, u32_or_nat _ _ (Nat.lt_of_le_of_lt (Nat.div_le_self _ _) hx) (Nat.mod_lt _ (by decide)), u32_or_nat _ _ (Nat.mod_lt _ (by decide)) (Nat.lt_of_le_of_lt (Nat.div_le_self _ _) hx), Nat.or_comm]
theorem and31 (n : Nat) (h0 : 0 < n) (h1 : n < 32) : bits .and .u64 (IntKind.u64.wrap (-(n : Int))) 31 = ((32 - n : Nat) : Int) := by
  have e : IntKind.u64.wrap (-(n : Int)) = ((18446744073709551616 - n : Nat) : Int) := by rw [IntKind.wrap_u64]; omega
  rw [e, show (31 : Int) = ((31 : Nat) : Int) from rfl, u64_and_nat _ _ (by omega) (by decide)]
  have : (18446744073709551616 - n) &&& 31 = (18446744073709551616 - n) % 32 := Nat.and_two_pow_sub_one_eq_mod _ 5
  rw [this]
  omega
set_option maxRecDepth 100000 in
theorem rotl (x n : Nat) (hx : x < 4294967296) (h0 : 0 < n) (h1 : n < 32) (w : World) : Calls Tryz.prog 147 #[w32 x, .int .i64 (-(n : Int))] w fun e w' => e = .returned (w32 (rotr x n)) ∧ w = w' := by
  have ha := and31 n h0 h1
  obtain ⟨s, hs⟩ : ∃ s, 32 - n = s := ⟨_, rfl⟩
  have hs0 : 0 < s := by omega
  have hs1 : s < 32 := by omega
  have hn : n = 32 - s := by omega
  rw [hs] at ha
  have HN := Lib.hid (show bits .or .u32 ((x : Int) * 2 ^ s % 4294967296) ((x : Int) / 2 ^ (32 - s)) = (rotr x n : Nat) by
    have := or32' x n hx
    rw [hs] at this
    rw [← hn]
    exact this)
  clear hs hn
  go_enter Tryz.func147, Tryz.ntmps147
  go_wp2
  go_ret
  exact ⟨ret_int HN.out, rfl⟩
set_option maxRecDepth 100000 in
theorem rot (x n : Nat) (hx : x < 4294967296) (h0 : 0 < n) (h1 : n < 32) (w : World) : Calls Tryz.prog 124 #[w32 x, .int .i64 n] w fun e w' => e = .returned (w32 (rotr x n)) ∧ w = w' := by
  go_enter Tryz.func124, Tryz.ntmps124
  go_wp2_with fail
  refine (rotl x n hx h0 h1 w).mono ?_
  rintro e w1 ⟨rfl, rfl⟩
  go_wp2_with fail
  go_ret
  exact ⟨rfl, rfl⟩
theorem rotC (x n : Nat) (z : Int) (w : World) (hx : x < 4294967296) (h0 : 0 < n) (h1 : n < 32) (hz : z = n) : Calls Tryz.prog 124 #[w32 x, .int .i64 z] w fun e w' => e = .returned (w32 (rotr x n)) ∧ w = w' := by
  subst hz
  exact rot x n hx h0 h1 w
theorem rotI (x : Nat) (z : Int) (w : World) (hx : x < 4294967296) (h0 : 0 < z.toNat) (h1 : z.toNat < 32) (hz : (z.toNat : Int) = z := by decide) : Calls Tryz.prog 124 #[w32 x, .int .i64 z] w fun e w' => e = .returned (w32 (rotr x z.toNat)) ∧ w = w' :=
  rotC x z.toNat z w hx h0 h1 hz.symm
set_option maxRecDepth 100000 in
theorem rrot (x n : Nat) (hx : x < 4294967296) (h0 : 0 < n) (h1 : n < 32) (w : World) : Calls Tryz.prog 49 #[w32 x, .int .u64 n] w fun e w' => e = .returned (w32 (rotr x n)) ∧ w = w' := by
  have HN := Lib.hid (or32 x n hx)
  go_enter Tryz.func49, Tryz.ntmps49
  go_wp2
  go_ret
  exact ⟨ret_int HN.out, rfl⟩
end Go.Proofs.YtecnnlppinhmgaaGreatDoor.ShaA
