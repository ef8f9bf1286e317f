/-
  Layings of the library at this seat, by the kit's own programs, in plain words. slices.Clone and slices.SortFunc of pairs. The walk of package uri's Encode. package uri's Parse, in one word; the walk of bollardlaw17.alive.
-/
import Derived.Test.YtidflagmdabfaaaGreatDoorSg08
import Derived.Test.YtidflagmdabfaaaGreatDoorSg10
import Derived.Test.YtidflagmdabfaaaGreatDoorSg12
import Derived.Test.YtidflagmdabfaaaGreatDoorSg13
import Derived.Shelf.SlSortCmp.WholeK
import Derived.Shelf.SlSortCmp.NoneTotal
import Derived.Shelf.SlicesE.Clone
import Derived.Ground.SlsfProg
import Derived.Ground.SlgnProg
import Derived.Test.YtidflagmdabfaaaGreatDoorProg
namespace Go.Proofs
open Go.Shelf
def Tryz.sortPair_ren : Go.Shelf.Ren := ⟨fun | 6 => 116 | 15 => 162 | 14 => 161 | 28 => 198 | 29 => 199 | 20 => 190 | 21 => 191 | 22 => 192 | 23 => 193 | 24 => 194 | 25 => 195 | 26 => 196 | 27 => 197 | 46 => 222 | 47 => 223 | 48 => 224 | 49 => 225 | 50 => 226 | 57 => 237 | n => n, fun | 22 => 95 | 24 => 152 | 25 => 177 | 3 => 3 | 39 => 191 | 0 => 0 | 53 => 193 | 55 => 221 | 4 => 4 | 46 => 240 | 45 => 239 | 50 => 139 | 5 => 5 | 9 => 9 | 66 => 264 | 70 => 268 | 76 => 284 | 77 => 285 | n => n, fun | n => n⟩
theorem Tryz.sortPair : Go.Proofs.SlLaysF0.n6 Tryz.prog Tryz.sortPair_ren := {
  mixed := by kernel_rfl
  f6 := ⟨Tryz.f116.name, by decide, Tryz.func116.trans (congrArg some (by kernel_rfl))⟩
  f14 := ⟨Tryz.f161.name, by decide, Tryz.func161.trans (congrArg some (by kernel_rfl))⟩
  f15 := Tryz.func162.trans (congrArg some (by kernel_rfl))
  f20 := ⟨Tryz.f190.name, by decide, Tryz.func190.trans (congrArg some (by kernel_rfl))⟩
  f21 := ⟨Tryz.f191.name, by decide, Tryz.func191.trans (congrArg some (by kernel_rfl))⟩
  f22 := ⟨Tryz.f192.name, by decide, Tryz.func192.trans (congrArg some (by kernel_rfl))⟩
  f23 := ⟨Tryz.f193.name, by decide, Tryz.func193.trans (congrArg some (by kernel_rfl))⟩
  f24 := ⟨Tryz.f194.name, by decide, Tryz.func194.trans (congrArg some (by kernel_rfl))⟩
  f25 := ⟨Tryz.f195.name, by decide, Tryz.func195.trans (congrArg some (by kernel_rfl))⟩
  f26 := ⟨Tryz.f196.name, by decide, Tryz.func196.trans (congrArg some (by kernel_rfl))⟩
  f27 := ⟨Tryz.f197.name, by decide, Tryz.func197.trans (congrArg some (by kernel_rfl))⟩
  f28 := Tryz.func198.trans (congrArg some (by kernel_rfl))
  f29 := Tryz.func199.trans (congrArg some (by kernel_rfl))
  f46 := ⟨Tryz.f222.name, by decide, Tryz.func222.trans (congrArg some (by kernel_rfl))⟩
  f47 := Tryz.func223.trans (congrArg some (by kernel_rfl))
  f48 := Tryz.func224.trans (congrArg some (by kernel_rfl))
  f49 := ⟨Tryz.f225.name, by decide, Tryz.func225.trans (congrArg some (by kernel_rfl))⟩
  f50 := ⟨Tryz.f226.name, by decide, Tryz.func226.trans (congrArg some (by kernel_rfl))⟩
  f57 := ⟨Tryz.f237.name, by decide, Tryz.func237.trans (congrArg some (by kernel_rfl))⟩
  t0 := Tryz.underlying0
  a0 := Tryz.isAgg0
  z0 := Tryz.sizeOf0
  v0 := Tryz.zeroValue0
  t3 := Tryz.underlying3
  a3 := Tryz.isAgg3
  z3 := Tryz.sizeOf3
  v3 := Tryz.zeroValue3
  t4 := Tryz.underlying4
  a4 := Tryz.isAgg4
  z4 := Tryz.sizeOf4
  v4 := Tryz.zeroValue4
  t5 := Tryz.underlying5
  a5 := Tryz.isAgg5
  z5 := Tryz.sizeOf5
  v5 := Tryz.zeroValue5
  t9 := Tryz.underlying9
  a9 := Tryz.isAgg9
  z9 := Tryz.sizeOf9
  v9 := Tryz.zeroValue9
  t22 := Tryz.underlying95
  a22 := Tryz.isAgg95
  z22 := Tryz.sizeOf95
  v22 := Tryz.zeroValue95
  t25 := Tryz.underlying177
  a25 := Tryz.isAgg177
  z25 := Tryz.sizeOf177
  v25 := Tryz.zeroValue177
  t39 := Tryz.underlying191
  a39 := Tryz.isAgg191
  z39 := Tryz.sizeOf191
  v39 := Tryz.zeroValue191
  t45 := Tryz.underlying239
  a45 := Tryz.isAgg239
  z45 := Tryz.sizeOf239
  v45 := Tryz.zeroValue239
  t46 := Tryz.underlying240
  a46 := Tryz.isAgg240
  z46 := Tryz.sizeOf240
  v46 := Tryz.zeroValue240
  t50 := Tryz.underlying139
  a50 := Tryz.isAgg139
  z50 := Tryz.sizeOf139
  v50 := Tryz.zeroValue139
  t53 := Tryz.underlying193
  a53 := Tryz.isAgg193
  z53 := Tryz.sizeOf193
  v53 := Tryz.zeroValue193
  t55 := Tryz.underlying221
  a55 := Tryz.isAgg221
  z55 := Tryz.sizeOf221
  v55 := Tryz.zeroValue221
  t66 := Tryz.underlying264
  a66 := Tryz.isAgg264
  z66 := Tryz.sizeOf264
  v66 := Tryz.zeroValue264
  t70 := Tryz.underlying268
  a70 := Tryz.isAgg268
  z70 := Tryz.sizeOf268
  v70 := Tryz.zeroValue268
  t76 := Tryz.underlying284
  a76 := Tryz.isAgg284
  z76 := Tryz.sizeOf284
  v76 := Tryz.zeroValue284
  t77 := Tryz.underlying285
  a77 := Tryz.isAgg285
  z77 := Tryz.sizeOf285
  v77 := Tryz.zeroValue285 }
def Tryz.clonePair_ren : Go.Shelf.Ren := ⟨fun | 41 => 115 | n => n, fun | 22 => 95 | 23 => 152 | 4 => 4 | n => n, fun | n => n⟩
theorem Tryz.clonePair : Go.Proofs.SlLaysE0.n41 Tryz.prog Tryz.clonePair_ren := {
  mixed := by kernel_rfl
  f41 := ⟨Tryz.f115.name, by decide, Tryz.func115.trans (congrArg some (by kernel_rfl))⟩
  t4 := Tryz.underlying4
  a4 := Tryz.isAgg4
  z4 := Tryz.sizeOf4
  v4 := Tryz.zeroValue4
  t22 := Tryz.underlying95
  a22 := Tryz.isAgg95
  z22 := Tryz.sizeOf95
  v22 := Tryz.zeroValue95 }
end Go.Proofs
namespace Go.Proofs.YtidflagmdabfaaaGreatDoor.UriO
open Go.Shelf Go.RowKit Go.Lib Go.Sort Go.Proofs.YtidflagmdabfaaaGreatDoor Go.Proofs.YtidflagmdabfaaaGreatDoor.UriC Go.Proofs.YtidflagmdabfaaaGreatDoor.UriN

theorem cs_neg (a b : List UInt8) : cs a b < 0 ↔ a < b := by
  unfold cs
  rw [Go.Proofs.bytesLess_eq]
  by_cases h : a < b
  · simp [h]
  · simp only [h, decide_false, Bool.false_eq_true, if_false]
    split <;> simp
theorem cs_zero (a b : List UInt8) : cs a b = 0 ↔ a = b := by
  unfold cs
  rw [Go.Proofs.bytesLess_eq]
  by_cases h : a < b
  · simp only [h, decide_true, if_true]
    constructor
    · intro h; omega
    · rintro rfl; exact absurd h (List.lt_irrefl a)
  · by_cases e : a = b
    · simp [e]
    · simp [h, e]
/-- one pair lies ahead of the other -/
def Lt (x y : Pr) : Prop := x.1 < y.1 ∨ (x.1 = y.1 ∧ x.2 < y.2)
theorem cf_neg (x y : Pr) : cf x y < 0 ↔ Lt x y := by
  unfold cf Lt
  by_cases h : cs x.1 y.1 = 0
  · rw [if_neg (by simp [h])]
    rw [cs_neg]
    have e := (cs_zero _ _).1 h
    constructor
    · intro h2; exact .inr ⟨e, h2⟩
    · rintro (h2 | ⟨_, h2⟩)
      · rw [e] at h2; exact absurd h2 (List.lt_irrefl _)
      · exact h2
  · rw [if_pos h, cs_neg]
    constructor
    · exact .inl
    · rintro (h2 | ⟨h2, _⟩)
      · exact h2
      · exact absurd ((cs_zero _ _).2 h2) h
theorem lt_cf (x y : Pr) : ltOf cf x y = true ↔ Lt x y := by
  unfold ltOf; rw [decide_eq_true_eq]; exact cf_neg x y
theorem lt_cf_false (x y : Pr) : ltOf cf x y = false ↔ ¬ Lt x y := by
  rw [← lt_cf]; simp
theorem tri (a b : List UInt8) : a < b ∨ a = b ∨ b < a := by
  by_cases h : a < b
  · exact .inl h
  · by_cases h2 : b < a
    · exact .inr (.inr h2)
    · exact .inr (.inl (List.le_antisymm (List.not_lt.1 h2) (List.not_lt.1 h)))
theorem Lt.irrefl (x : Pr) : ¬ Lt x x := by
  rintro (h | ⟨_, h⟩) <;> exact List.lt_irrefl _ h
theorem Lt.trans {x y z : Pr} (h1 : Lt x y) (h2 : Lt y z) : Lt x z := by
  rcases h1 with h1 | ⟨e1, h1⟩ <;> rcases h2 with h2 | ⟨e2, h2⟩
  · exact .inl (List.lt_trans h1 h2)
  · exact .inl (e2 ▸ h1)
  · exact .inl (e1 ▸ h2)
  · exact .inr ⟨e1.trans e2, List.lt_trans h1 h2⟩
theorem Lt.tri (x y : Pr) : Lt x y ∨ x = y ∨ Lt y x := by
  rcases UriO.tri x.1 y.1 with h | h | h
  · exact .inl (.inl h)
  · rcases UriO.tri x.2 y.2 with h2 | h2 | h2
    · exact .inl (.inr ⟨h, h2⟩)
    · exact .inr (.inl (Prod.ext h h2))
    · exact .inr (.inr (.inr ⟨h.symm, h2⟩))
  · exact .inr (.inr (.inl h))
theorem swo : SWO (ltOf cf) where
  irrefl x := (lt_cf_false x x).2 (Lt.irrefl x)
  trans x y z h1 h2 := (lt_cf x z).2 (((lt_cf _ _).1 h1).trans ((lt_cf _ _).1 h2))
  ntrans x y z h1 h2 := by
    rw [lt_cf_false] at *
    intro h
    rcases Lt.tri x y with a | rfl | a
    · exact h1 a
    · exact h2 h
    · rcases Lt.tri y z with b | rfl | b
      · exact h2 b
      · exact h1 h
      · exact Lt.irrefl _ ((h.trans b).trans a)
theorem parts (x y : Pr) (h1 : ltOf cf x y = false) (h2 : ltOf cf y x = false) : x = y := by
  rw [lt_cf_false] at *
  rcases Lt.tri x y with a | a | a
  · exact absurd a h1
  · exact a
  · exact absurd a h2
/-- sorted -/
noncomputable def srt (ps : List Pr) : List Pr := ps.mergeSort fun x y => !ltOf cf y x

/-- a slice of pairs: its address bears no spot -/
def Flat (a : Option Addr) : Prop := ∀ p, a = some p → ∃ b o, p = ⟨b, o, none⟩
theorem own_flat {w : World} {base : Nat} {e : TypeId} {size : Nat} {a : Option Addr} {n c k : Nat} {xs : List Value} (h : w.ownsRow base e size (.slice a n c) k xs) : Flat a := by
  rcases h.2 with ⟨h, _⟩ | ⟨g, cap, cur, hv, _⟩
  · cases h; exact fun p hp => nomatch hp
  · cases hv; exact fun p hp => ⟨g, 0, (Option.some.inj hp).symm⟩
theorem pcells_length (ps : List Pr) : (pcells ps).length = ps.length * 2 := by
  induction ps with
  | nil => rfl
  | cons p t ih => simp [pcells] at ih ⊢; omega
theorem pcells_at {w : World} {b : Nat} : ∀ (ps : List Pr) (o : Nat), (∀ (j : Nat) p, ps[j]? = some p → w.cell? ⟨b, o + j * 2, none⟩ = some (.string ⟨p.1.toArray⟩) ∧ w.cell? ⟨b, o + j * 2 + 1, none⟩ = some (.string ⟨p.2.toArray⟩)) →
    ∀ j u, (pcells ps)[j]? = some u → w.cell? ⟨b, o + j, none⟩ = some u
  | [], _, _, j, u, h => by simp [pcells] at h
  | p :: t, o, H, 0, u, h => by
    have h0 := (H 0 p rfl).1
    simp [pcells] at h
    subst h; simpa using h0
  | p :: t, o, H, 1, u, h => by
    have h0 := (H 0 p rfl).2
    simp [pcells] at h
    subst h; simpa using h0
  | p :: t, o, H, j + 2, u, h => by
    have ih := pcells_at (b := b) t (o + 2) (fun j q hq => by
      have := H (j + 1) q (by simpa using hq)
      have e1 : o + (j + 1) * 2 = o + 2 + j * 2 := by omega
      rw [e1] at this
      exact this) j u (by simpa [pcells] using h)
    have e : o + (j + 2) = o + 2 + j := by omega
    rw [e]; exact ih

theorem sizePair (w : World) : (Go.sizeOf 152).run Tryz.prog w = .ok 2 w := by
  have h := infoPair
  cases hi : Tryz.prog.info? 152 with
  | none => rw [hi] at h; cases h
  | some i =>
    rw [hi] at h
    have hs : i.size = 2 := by have := congrArg (fun o => o.map (·.2.1)) h; simpa using this
    simp [sizeOf, typeInfo, hi, hs]
theorem aggPair (w : World) : (isAgg 152).run Tryz.prog w = .ok true w := by
  simp [isAgg, run_underlying UriL.undPair]

theorem clone {a : Option Addr} {ps : List Pr} (c : Nat) (w : World) (hf : Flat a) (hp : Pairs w a ps) (hl : ps.length ≤ 4294967296) :
    Calls Tryz.prog 115 #[.slice a ps.length c] w fun e w' => ∃ v', e = .returned v' ∧ w'.ownsRow w.heap.size 152 2 v' ps.length (pcells ps) ∧ Below w.heap.size w w' := by
  cases a with
  | none =>
    have e : ps = [] := by
      rcases hp with h | ⟨b, o, h, _⟩
      · exact h
      · cases h
    subst e
    exact (AnyE.slices_Clone_nil Tryz.clonePair 0 c w).mono fun e w' ⟨h1, h2⟩ => ⟨_, h1, ⟨rfl, .inl ⟨rfl, rfl⟩⟩, h2 ▸ Below.refl _ _⟩
  | some p =>
    obtain ⟨b, o, rfl⟩ := hf p rfl
    have hi := infoPair
    cases hI : Tryz.prog.info? 152 with
    | none => rw [hI] at hi; cases hi
    | some i =>
      rw [hI] at hi
      have hi2 : (i.zero, i.size, i.bytes) = (some (.agg #[.string ⟨#[]⟩, .string ⟨#[]⟩]), 2, 32) := by simpa using hi
      simp only [Prod.mk.injEq] at hi2
      refine (AnyE.slices_Clone Tryz.clonePair i _ 2 32 hI hi2.1 hi2.2.1 hi2.2.2 rfl (by decide) sizePair b o ps.length c (pcells ps) w (pcells_length ps) (by simp only [maxLen]; omega) (by omega) ?_ ?_).mono fun e w' ⟨v', h1, h2, _, h3⟩ => ⟨v', h1, h2, h3⟩
      · rcases hp with h | ⟨b', o', h, _, H⟩
        · subst h; intro j u hj; simp [pcells] at hj
        · cases h; exact pcells_at ps o H
      · intro u hu
        simp only [pcells, List.mem_flatMap, List.mem_cons, List.not_mem_nil, or_false] at hu
        obtain ⟨q, _, rfl | rfl⟩ := hu <;> rfl

theorem enc_at (x : Pr) : (enc x)[0]! = .string ⟨x.1.toArray⟩ ∧ (enc x)[1]! = .string ⟨x.2.toArray⟩ := ⟨rfl, rfl⟩
theorem flat_at (d : Array Pr) (j : Nat) (h : j < d.size) : (flatK enc 2 d)[j * 2]! = .string ⟨d[j]!.1.toArray⟩ ∧ (flatK enc 2 d)[j * 2 + 1]! = .string ⟨d[j]!.2.toArray⟩ := by
  rw [get_flatK _ _ _ _ (by omega), get_flatK _ _ _ _ (by omega)]
  rw [show j * 2 / 2 = j by omega, show j * 2 % 2 = 0 by omega, show (j * 2 + 1) / 2 = j by omega, show (j * 2 + 1) % 2 = 1 by omega]
  exact enc_at _
theorem holds_pairs {w : World} {g : Nat} {d : Array Pr} (h : HoldsK enc 2 w g 0 d) (hg : g < w.heap.size) : Pairs w (some ⟨g, 0, none⟩) d.toList := by
  refine .inr ⟨g, 0, rfl, hg, fun j p hj => ?_⟩
  have hj' : j < d.size := by
    have := (List.getElem?_eq_some_iff.1 hj).1
    simpa using this
  have hp : d[j]! = p := by
    rw [getElem!_pos d j hj']
    have := (List.getElem?_eq_some_iff.1 hj).2
    simpa using this
  obtain ⟨f1, f2⟩ := flat_at d j hj'
  have k1 := (h (j * 2) (by rw [size_flatK]; omega)).1
  have k2 := (h (j * 2 + 1) (by rw [size_flatK]; omega)).1
  rw [f1, hp] at k1
  rw [f2, hp] at k2
  exact ⟨k1, by rw [Nat.add_assoc]; exact k2⟩
theorem own_holds {w : World} {base g : Nat} {n c : Nat} {ps : List Pr} (h : w.ownsRow base 152 2 (.slice (some ⟨g, 0, none⟩) n c) ps.length (pcells ps)) : HoldsK enc 2 w g 0 ps.toArray ∧ g < w.heap.size ∧ base ≤ g := by
  rcases h.2 with ⟨h, _⟩ | ⟨g', cap, cur, hv, hb, hg, hn, hm, hcs, htk⟩
  · cases h
  · cases hv
    refine ⟨fun j hj => ?_, (Array.getElem?_eq_some_iff.1 hg).1, hb⟩
    rw [size_flatK] at hj
    have hk : j / 2 < ps.length := by simp at hj; omega
    obtain ⟨q1, q2⟩ := pcells_get (List.getElem?_eq_getElem hk)
    have hu : (pcells ps)[j]? = some ((enc ps[j / 2])[j % 2]!) := by
      rcases Nat.mod_two_eq_zero_or_one j with hm | hm
      · rw [hm, (enc_at _).1]
        exact (congrArg (fun k => (pcells ps)[k]?) (show j = j / 2 * 2 by omega)).trans q1
      · rw [hm, (enc_at _).2]
        exact (congrArg (fun k => (pcells ps)[k]?) (show j = j / 2 * 2 + 1 by omega)).trans q2
    have hc := h.cells (g := g) rfl j _ hu
    rw [UriA.addr_add] at hc
    refine ⟨hc.trans ?_, Lib.frozen_of_heap hg _⟩
    show some _ = some ((flatK enc 2 ps.toArray)[j]!)
    rw [get_flatK _ _ _ _ hj]
    have hx : ps.toArray[j / 2]! = ps[j / 2] := by rw [getElem!_pos ps.toArray (j / 2) (by simpa using hk)]; simp
    rw [hx]
theorem below_sorted {w : World} {g off n B : Nat} {d : Array Pr} {os : Array Obj} (h : B ≤ g) (hB : B ≤ w.heap.size) : Below B w (sortWorldK enc 2 w g off n d os) := by
  have hs : (sortWorldK enc 2 w g off n d os).heap = w.heap.modify g (onCells (putCells id off (flatK enc 2 d))) ++ os := rfl
  refine ⟨rfl, rfl, rfl, ?_, fun k hk => ?_⟩
  · rw [hs]; simp
  · rw [hs, Array.getElem?_append_left (by simp; omega), Array.getElem?_modify, if_neg (by omega)]

theorem sort {base : Nat} {a : Option Addr} {ps : List Pr} (c : Nat) (w : World) (h : w.ownsRow base 152 2 (.slice a ps.length c) ps.length (pcells ps)) (hl : ps.length ≤ 4294967296) (hB : base ≤ w.heap.size) :
    Calls Tryz.prog 116 #[.slice a ps.length c, .func (.func 117) #[] #[]] w fun e w' => e = .returned (.tuple #[]) ∧ Pairs w' a (srt ps) ∧ Below base w w' := by
  cases a with
  | none =>
    have e : ps = [] := by
      rcases h.2 with ⟨_, h⟩ | ⟨g, cap, cur, hv, _⟩
      · exact List.eq_nil_of_length_eq_zero h
      · cases hv
    subst e
    refine (AnyF.slices_SortFunc_none Tryz.sortPair none c _ w).mono fun e w' ⟨h1, h2⟩ => ⟨h1, .inl (by simp [srt]), h2 ▸ Below.refl _ _⟩
  | some p =>
    obtain ⟨b, o, rfl⟩ := own_flat h p rfl
    obtain rfl : o = 0 := by
      rcases h.2 with ⟨h, _⟩ | ⟨g, cap, cur, hv, _⟩
      · cases h
      · cases hv; rfl
    obtain ⟨hH, hb, hbb⟩ := own_holds h
    have eg : ∀ args w, (callFunc 117 args).run Tryz.prog w = .ok (.enter 117 args) w := enters_of Tryz.func117 (by kernel_rfl) rfl
    have hcon := AnyQ.slices_SortFunc_total Tryz.sortPair 2 aggPair sizePair enc (fun _ => rfl) (fun x v hv => by simp [enc] at hv; rcases hv with rfl | rfl <;> rfl) cf swo 117 #[] b 0 c ps.toArray w eg
      (fun m os dk _ x y => closure x y _) hH hb (by simp; omega) parts
    refine hcon.mono ?_
    rintro e w' ⟨he, n, os, rfl⟩
    refine ⟨he, ?_, below_sorted hbb hB⟩
    have hk : AtK enc 2 w b 0 (ps.toArray.toList.mergeSort fun x y => !ltOf cf y x).toArray (sortWorldK enc 2 w b 0 n (ps.toArray.toList.mergeSort fun x y => !ltOf cf y x).toArray os) := ⟨n, os, rfl⟩
    obtain ⟨h1, h2⟩ := hk.holds hH (by simp) hb
    exact holds_pairs h1 h2
end Go.Proofs.YtidflagmdabfaaaGreatDoor.UriO
namespace Go.Proofs.YtidflagmdabfaaaGreatDoor.UriD
open Go.RowKit Go.Proofs.YtidflagmdabfaaaGreatDoor

def plainL : List UInt8 := [65, 66, 67, 68, 69, 70, 71, 72, 73, 74, 75, 76, 77, 78, 79, 80, 81, 82, 83, 84, 85, 86, 87, 88, 89, 90, 97, 98, 99, 100, 101, 102, 103, 104, 105, 106, 107, 108, 109, 110, 111, 112, 113, 114, 115, 116, 117, 118, 119, 120, 121, 122, 48, 49, 50, 51, 52, 53, 54, 55, 56, 57, 45, 95, 46, 126]
/-- a plain byte -/
def pl (c : UInt8) : Bool := (decide (97 ≤ c.toNat) && decide (c.toNat ≤ 122)) || (decide (65 ≤ c.toNat) && decide (c.toNat ≤ 90)) || (decide (48 ≤ c.toNat) && decide (c.toNat ≤ 57)) || c == 45 || c == 95 || c == 46 || c == 126
theorem pl_all : ∀ n : Fin 256, pl (UInt8.ofNat n.1) = decide (0 ≤ Lib.indexByte plainL (UInt8.ofNat n.1)) := by decide +kernel
theorem pl_eq (c : UInt8) : pl c = decide (0 ≤ Lib.indexByte plainL c) := by
  have := pl_all ⟨c.toNat, UInt8.toNat_lt c⟩
  simpa using this
def hx (n : Nat) : UInt8 := UriA.digits.getD n 0
/-- does it stand for itself? -/
def self (slash : Bool) (c : UInt8) : Bool := pl c || (c == 47 && slash)
def enc1 (slash : Bool) (c : UInt8) : List UInt8 := if self slash c then [c] else [37, hx (c.toNat / 16), hx (c.toNat % 16)]
/-- the encoded text -/
def enc (slash : Bool) (l : List UInt8) : List UInt8 := l.flatMap (enc1 slash)
theorem enc_snoc (slash : Bool) (l : List UInt8) (c : UInt8) : enc slash (l ++ [c]) = enc slash l ++ enc1 slash c := by simp [enc]
theorem enc1_len (slash : Bool) (c : UInt8) : (enc1 slash c).length ≤ 3 := by unfold enc1; split <;> simp
theorem enc_len (slash : Bool) (l : List UInt8) : (enc slash l).length ≤ 3 * l.length := by
  induction l with
  | nil => simp [enc]
  | cons c r ih =>
    have := enc1_len slash c
    simp only [enc, List.flatMap_cons, List.length_append, List.length_cons] at ih ⊢
    omega

theorem indexS (p : ByteArray) (hp : p.data.toList = plainL) (c : UInt8) (h : pl c = true) (w : World) : Calls Tryz.prog 164 #[.string p, .int .u8 (c.toNat : Int)] w fun e w' => (∃ j : Int, 0 ≤ j ∧ e = .returned (.int .i64 j)) ∧ w' = w := by
  refine (Tryz.strings_IndexByte p _ w).mono ?_
  rintro e w' ⟨rfl, rfl⟩
  refine ⟨⟨_, ?_, rfl⟩, rfl⟩
  have := pl_eq c
  rw [h] at this
  rw [hp]
  simpa using this.symm
theorem indexN (p : ByteArray) (hp : p.data.toList = plainL) (c : UInt8) (h : pl c = false) (w : World) : Calls Tryz.prog 164 #[.string p, .int .u8 (c.toNat : Int)] w fun e w' => (∃ j : Int, j < 0 ∧ e = .returned (.int .i64 j)) ∧ w' = w := by
  refine (Tryz.strings_IndexByte p _ w).mono ?_
  rintro e w' ⟨rfl, rfl⟩
  refine ⟨⟨_, ?_, rfl⟩, rfl⟩
  have := pl_eq c
  rw [h] at this
  rw [hp]
  simpa using this.symm

theorem dig_get {i : Nat} (h : i < (ByteArray.mk #[48, 49, 50, 51, 52, 53, 54, 55, 56, 57, 65, 66, 67, 68, 69, 70]).size) : (ByteArray.mk #[48, 49, 50, 51, 52, 53, 54, 55, 56, 57, 65, 66, 67, 68, 69, 70])[i]'h = hx i := by
  have hi : i < 16 := h
  have : ∀ j : Fin 16, (ByteArray.mk #[48, 49, 50, 51, 52, 53, 54, 55, 56, 57, 65, 66, 67, 68, 69, 70])[j.1]'j.2 = hx j.1 := by decide
  exact this ⟨i, hi⟩
theorem three (l : List UInt8) (a b c : UInt8) : Lib.byteCells (l ++ [a, b, c]) = Lib.byteCells l ++ [.int .u8 a.toNat] ++ [.int .u8 b.toNat] ++ [.int .u8 c.toNat] := by simp [Lib.byteCells]

set_option maxHeartbeats 4000000 in
set_option maxRecDepth 100000 in
theorem encode (s : ByteArray) (slash : Bool) (w : World) (hs : s.size ≤ 16777216) :
    Calls Tryz.prog 120 #[.string s, .bool slash] w fun e w' => e = .returned (.string ⟨(enc slash s.data.toList).toArray⟩) ∧ Below w.heap.size w w' := by
  go_enter Tryz.func120, Tryz.ntmps120
  go_wp2_with fail
  go_loopw [6, 7, 10] (fun _ _ i wr => ∃ k : Nat, k ≤ s.size ∧ i = .int .i64 k ∧ Lib.IsBuilder 185 5 w.heap.size w.heap.size (Lib.byteCells (enc slash (s.data.toList.take k))) wr ∧ Below w.heap.size w wr) (fun _ _ i _ => s.size - (intOf i).toNat)
  case atStart => exact ⟨0, Nat.zero_le _, rfl, Lib.fresh_isBuilder _ _ _, (Below.refl _ w).alloc (Nat.le_refl _) _⟩
  case round =>
    obtain ⟨k, hk, rfl, hI, hb⟩ := hrel
    have hsz := hb.size
    by_cases hlt : k < s.size
    · have hts := Com.take_succ s k hlt
      have HN := Lib.hid (show enc slash (s.data.toList.take (k + 1)) = enc slash (s.data.toList.take k) ++ enc1 slash s[k] by rw [hts, enc_snoc])
      have hl : (enc slash (s.data.toList.take k)).length ≤ 3 * s.size := by
        have h1 := enc_len slash (s.data.toList.take k)
        have h2 : (s.data.toList.take k).length ≤ k := List.length_take_le _ _
        omega
      clear hts
      have hc := UInt8.toNat_lt s[k]
      by_cases hp : pl s[k] = true
      · have HE := Lib.hid (show enc1 slash s[k] = [s[k]] by simp [enc1, self, hp])
        go_wp2_with (first
          | (go_at_call 164; refine (indexS _ rfl s[k] hp _).mono ?_; rintro e w' ⟨⟨j, hj, rfl⟩, hw'⟩; obtain rfl := hw'.symm)
          | (go_at_call 127; refine (Bld.writeByte _ _ _ _ _ hI (by rw [Com.byteCells_length]; omega) hsz).mono ?_; rintro e w1 ⟨rfl, h1, b1⟩))
        go_roundw
        case rel => exact ⟨k + 1, by omega, by go_num, by rw [HN.out, HE.out, Com.byteCells_snoc]; exact h1, hb.trans b1⟩
        case measure => simp [intOf]; omega
      · have hp' : pl s[k] = false := by simpa using hp
        clear hp
        by_cases h47 : s[k] = 47 ∧ slash = true
        · obtain ⟨h1, rfl⟩ := h47
          have HE := Lib.hid (show enc1 true s[k] = [s[k]] by simp [enc1, self, h1])
          have t1 : ((s[k].toNat : Int) == 47) = true := by rw [h1]; rfl
          clear h1
          go_wp2_with (first
            | (go_at_call 164; refine (indexN _ rfl s[k] hp' _).mono ?_; rintro e w' ⟨⟨j, hj, rfl⟩, hw'⟩; obtain rfl := hw'.symm)
            | (go_at_call 127; refine (Bld.writeByte _ _ _ _ _ hI (by rw [Com.byteCells_length]; omega) hsz).mono ?_; rintro e w1 ⟨rfl, h1, b1⟩))
          go_roundw
          case rel => exact ⟨k + 1, by omega, by go_num, by rw [HN.out, HE.out, Com.byteCells_snoc]; exact h1, hb.trans b1⟩
          case measure => simp [intOf]; omega
        · have hsf : self slash s[k] = false := by
            simp only [self, hp', Bool.false_or, Bool.and_eq_false_iff, beq_eq_false_iff_ne]
            by_cases h1 : s[k] = 47
            · right; simpa using fun h2 => h47 ⟨h1, h2⟩
            · left; exact h1
          have HE := Lib.hid (show enc1 slash s[k] = [37, hx (s[k].toNat / 16), hx (s[k].toNat % 16)] by simp [enc1, hsf])
          have hs47 : slash = true → s[k] ≠ 47 := fun h1 h2 => h47 ⟨h2, h1⟩
          clear h47 hsf
          cases slash
          · clear hs47
            by_cases hq : s[k] = 47
            · have t1 : ((s[k].toNat : Int) == 47) = true := by rw [hq]; rfl
              clear hq
              go_wp2_with (first
                | (go_at_call 164; refine (indexN _ rfl s[k] hp' _).mono ?_; rintro e w' ⟨⟨j, hj, rfl⟩, hw'⟩; obtain rfl := hw'.symm)
                | (go_at_call 127; refine (Bld.writeByte _ _ _ _ _ hI (by rw [Com.byteCells_length]; omega) hsz).mono ?_; rintro e w1 ⟨rfl, h1, b1⟩))
              have hz1 := b1.size
              refine (Bld.writeByte _ _ _ _ _ h1 (by simp [Com.byteCells_length]; omega) (by omega)).mono ?_
              rintro e w2 ⟨rfl, h2, b2⟩
              have hz2 := b2.size
              go_wp2_with fail
              refine (Bld.writeByte _ _ _ _ _ h2 (by simp [Com.byteCells_length]; omega) (by omega)).mono ?_
              rintro e w3 ⟨rfl, h3, b3⟩
              go_wp2_with fail
              go_roundw
              case rel => exact ⟨k + 1, by omega, by go_num, by rw [HN.out, HE.out, three]; rw [dig_get, dig_get] at h3; exact h3, ((hb.trans b1).trans b2).trans b3⟩
              case measure => simp [intOf]; omega
            · have t1 := Com.u8_ne hq (n := 47) rfl
              clear hq
              go_wp2_with (first
                | (go_at_call 164; refine (indexN _ rfl s[k] hp' _).mono ?_; rintro e w' ⟨⟨j, hj, rfl⟩, hw'⟩; obtain rfl := hw'.symm)
                | (go_at_call 127; refine (Bld.writeByte _ _ _ _ _ hI (by rw [Com.byteCells_length]; omega) hsz).mono ?_; rintro e w1 ⟨rfl, h1, b1⟩))
              have hz1 := b1.size
              refine (Bld.writeByte _ _ _ _ _ h1 (by simp [Com.byteCells_length]; omega) (by omega)).mono ?_
              rintro e w2 ⟨rfl, h2, b2⟩
              have hz2 := b2.size
              go_wp2_with fail
              refine (Bld.writeByte _ _ _ _ _ h2 (by simp [Com.byteCells_length]; omega) (by omega)).mono ?_
              rintro e w3 ⟨rfl, h3, b3⟩
              go_wp2_with fail
              go_roundw
              case rel => exact ⟨k + 1, by omega, by go_num, by rw [HN.out, HE.out, three]; rw [dig_get, dig_get] at h3; exact h3, ((hb.trans b1).trans b2).trans b3⟩
              case measure => simp [intOf]; omega
          · have t1 := Com.u8_ne (hs47 rfl) (n := 47) rfl
            clear hs47
            go_wp2_with (first
              | (go_at_call 164; refine (indexN _ rfl s[k] hp' _).mono ?_; rintro e w' ⟨⟨j, hj, rfl⟩, hw'⟩; obtain rfl := hw'.symm)
              | (go_at_call 127; refine (Bld.writeByte _ _ _ _ _ hI (by rw [Com.byteCells_length]; omega) hsz).mono ?_; rintro e w1 ⟨rfl, h1, b1⟩))
            have hz1 := b1.size
            refine (Bld.writeByte _ _ _ _ _ h1 (by simp [Com.byteCells_length]; omega) (by omega)).mono ?_
            rintro e w2 ⟨rfl, h2, b2⟩
            have hz2 := b2.size
            go_wp2_with fail
            refine (Bld.writeByte _ _ _ _ _ h2 (by simp [Com.byteCells_length]; omega) (by omega)).mono ?_
            rintro e w3 ⟨rfl, h3, b3⟩
            go_wp2_with fail
            go_roundw
            case rel => exact ⟨k + 1, by omega, by go_num, by rw [HN.out, HE.out, three]; rw [dig_get, dig_get] at h3; exact h3, ((hb.trans b1).trans b2).trans b3⟩
            case measure => simp [intOf]; omega
    · have hk2 : k = s.size := by omega
      have HK := Lib.hid hk2; clear hk2
      go_wp2_with (go_at_call 126; refine (Tryz.Builder_String_any _ _ _ _ hI hsz).mono ?_; rintro e w1 ⟨rfl, b1⟩)
      go_ret
      refine ⟨Com.str_eq rfl ?_, hb.trans b1⟩
      rw [List.take_of_length_le]
      rw [Com.toList_length, HK.out]
      exact Nat.le_refl _
end Go.Proofs.YtidflagmdabfaaaGreatDoor.UriD
namespace Go.Proofs.YtidflagmdabfaaaGreatDoor.UriG
open Go.RowKit Go.Proofs.YtidflagmdabfaaaGreatDoor Go.Proofs.YtidflagmdabfaaaGreatDoor.UriC

theorem prefix_head (l : List UInt8) : Lib.hasPrefix l [47] = decide (l.head? = some 47) := by
  cases l with
  | nil => rfl
  | cons c t =>
    simp only [Lib.hasPrefix, List.isPrefixOf, List.head?_cons, Option.some.injEq, Bool.and_true]
    by_cases h : c = 47
    · subst h; rfl
    · simp [h, Ne.symm h]
/-- Parse refuses -/
theorem parseN (t : ByteArray) (w : World) {aU : Addr} (he : EU w aU) (hm : UriB.Mx w) (ht : t.size ≤ 16777216) (hn : Up.parse t.data.toList = none) :
    Calls Tryz.prog 43 #[.string t] w fun e w' => e = .returned (.tuple #[noUri, .iface 288 (.pointer (some aU))]) ∧ Below w.heap.size w w' := by
  refine (callsIn_wide (n := 8)).1 ?_
  cases hd : Up.dec (Up.cutAt 63 t.data.toList).1 with
  | none => exact parse_path t w he hm ht hd
  | some p =>
    by_cases hh : t.data.toList.head? = some 47
    · have hp : Up.pairs (Up.splits 38 (Up.cutAt 63 t.data.toList).2) = none := by
        simp only [Up.parse, hd] at hn
        rw [if_pos hh] at hn
        simpa using hn
      refine (parse_main t w he hm ht hd (by rw [prefix_head, hh]; rfl)).mono ?_
      rintro e w' ⟨h1, h2⟩
      rw [hp] at h1
      exact ⟨h1, h2⟩
    · exact parse_slash t w he hm ht hd (by rw [prefix_head]; simpa using hh)
/-- Parse takes a target apart -/
theorem parseS (t : ByteArray) (w : World) {aU : Addr} (he : EU w aU) (hm : UriB.Mx w) (ht : t.size ≤ 16777216) {u : Up.Uri} (hn : Up.parse t.data.toList = some u) :
    Calls Tryz.prog 43 #[.string t] w fun e w' => (∃ a c, e = .returned (.tuple #[.agg #[.string ⟨u.path.toArray⟩, .slice a u.query.length c], .nilIface]) ∧ (u.query.length ≤ c ∧ FlatA a) ∧ Pairs w' a u.query) ∧ Below w.heap.size w w' := by
  refine (callsIn_wide (n := 8)).1 ?_
  cases hd : Up.dec (Up.cutAt 63 t.data.toList).1 with
  | none => simp [Up.parse, hd] at hn
  | some p =>
    by_cases hh : t.data.toList.head? = some 47
    · simp only [Up.parse, hd] at hn
      rw [if_pos hh] at hn
      cases hp : Up.pairs (Up.splits 38 (Up.cutAt 63 t.data.toList).2) with
      | none => rw [hp] at hn; cases hn
      | some ps =>
        rw [hp] at hn
        obtain rfl : (⟨p, ps⟩ : Up.Uri) = u := by simpa using hn
        refine (parse_main t w he hm ht hd (by rw [prefix_head, hh]; rfl)).mono ?_
        rintro e w' ⟨h1, h2⟩
        rw [hp] at h1
        exact ⟨h1, h2⟩
    · simp only [Up.parse, hd] at hn
      rw [if_neg hh] at hn
      cases hn

def target : List UInt8 := [47, 97, 37, 50, 48, 98, 63, 120, 61, 49, 38, 121]
def parsed : Up.Uri := ⟨[47, 97, 32, 98], [([120], [49]), ([121], [])]⟩
theorem dec_one {c : UInt8} (h : Up.step [c] = some (c, [])) : Up.dec [c] = some [c] := by rw [Up.dec_some h, Up.dec_nil]; rfl
theorem dec_path : Up.dec [47, 97, 37, 50, 48, 98] = some [47, 97, 32, 98] := by
  rw [Up.dec_some (show Up.step [47, 97, 37, 50, 48, 98] = some (47, [97, 37, 50, 48, 98]) by decide), Up.dec_some (show Up.step [97, 37, 50, 48, 98] = some (97, [37, 50, 48, 98]) by decide),
    Up.dec_some (show Up.step [37, 50, 48, 98] = some (32, [98]) by decide), dec_one (show Up.step [98] = some (98, []) by decide)]
  rfl
theorem parse_target : Up.parse target = some parsed := by
  have h1 : Up.cutAt 63 target = ([47, 97, 37, 50, 48, 98], [120, 61, 49, 38, 121]) := by decide
  have h2 : Up.splits 38 [120, 61, 49, 38, 121] = [[120, 61, 49], [121]] := by decide
  have h3 : Up.cutAt 61 [120, 61, 49] = ([120], [49]) := by decide
  have h4 : Up.cutAt 61 [121] = ([121], []) := by decide
  have d1 : Up.dec [120] = some [120] := dec_one (by decide)
  have d2 : Up.dec [49] = some [49] := dec_one (by decide)
  have d3 : Up.dec [121] = some [121] := dec_one (by decide)
  have p1 : Up.pair [120, 61, 49] = some ([120], [49]) := by simp [Up.pair, h3, d1, d2]
  have p2 : Up.pair [121] = some ([121], []) := by simp [Up.pair, h4, d3, Up.dec_nil]
  have hp : Up.pairs [[120, 61, 49], [121]] = some [([120], [49]), ([121], [])] := by simp [Up.pairs, p1, p2]
  simp only [Up.parse, h1, dec_path, h2, hp]
  rfl
theorem enc_example : UriD.enc false [97, 47, 98, 32, 99] = [97, 37, 50, 70, 98, 37, 50, 48, 99] := by decide

end Go.Proofs.YtidflagmdabfaaaGreatDoor.UriG
