/-
  slices.Clone and slices.SortFunc of pairs.
-/
import Derived.Test.YtmimkgfkicgfiaaDoorUriN
import Derived.Test.YtmimkgfkicgfiaaDoorLay
namespace Go.Proofs.YtmimkgfkicgfiaaDoor.UriO
open Go.Shelf Go.RowKit Go.Lib Go.Sort Go.Proofs.YtmimkgfkicgfiaaDoor Go.Proofs.YtmimkgfkicgfiaaDoor.UriC Go.Proofs.YtmimkgfkicgfiaaDoor.UriN

theorem cs_neg (a b : List UInt8) : cs a b < 0 ↔ a < b := by
  unfold cs
  rw [Go.Proofs.bytesLess_eq]
  by_cases h : a < b
  · simp [h]
  · simp only [h, decide_false, Bool.false_eq_true, if_false]
    split <;> simp
theorem cs_zero (a b : List UInt8) : cs a b = 0 ↔ a = b := by
  unfold cs
  rw [Go.Proofs.bytesLess_eq]
  by_cases h : a < b
  · simp only [h, decide_true, if_true]
    constructor
    · intro h; omega
    · rintro rfl; exact absurd h (List.lt_irrefl a)
  · by_cases e : a = b
    · simp [e]
    · simp [h, e]
/-- one pair lies ahead of the other -/
def Lt (x y : Pr) : Prop := x.1 < y.1 ∨ (x.1 = y.1 ∧ x.2 < y.2)
theorem cf_neg (x y : Pr) : cf x y < 0 ↔ Lt x y := by
  unfold cf Lt
  by_cases h : cs x.1 y.1 = 0
  · rw [if_neg (by simp [h])]
    rw [cs_neg]
    have e := (cs_zero _ _).1 h
    constructor
    · intro h2; exact .inr ⟨e, h2⟩
    · rintro (h2 | ⟨_, h2⟩)
      · rw [e] at h2; exact absurd h2 (List.lt_irrefl _)
      · exact h2
  · rw [if_pos h, cs_neg]
    constructor
    · exact .inl
    · rintro (h2 | ⟨h2, _⟩)
      · exact h2
      · exact absurd ((cs_zero _ _).2 h2) h
theorem lt_cf (x y : Pr) : ltOf cf x y = true ↔ Lt x y := by
  unfold ltOf; rw [decide_eq_true_eq]; exact cf_neg x y
theorem lt_cf_false (x y : Pr) : ltOf cf x y = false ↔ ¬ Lt x y := by
  rw [← lt_cf]; simp
theorem tri (a b : List UInt8) : a < b ∨ a = b ∨ b < a := by
  by_cases h : a < b
  · exact .inl h
  · by_cases h2 : b < a
    · exact .inr (.inr h2)
    · exact .inr (.inl (List.le_antisymm (List.not_lt.1 h2) (List.not_lt.1 h)))
theorem Lt.irrefl (x : Pr) : ¬ Lt x x := by
  rintro (h | ⟨_, h⟩) <;> exact List.lt_irrefl _ h
theorem Lt.trans {x y z : Pr} (h1 : Lt x y) (h2 : Lt y z) : Lt x z := by
  rcases h1 with h1 | ⟨e1, h1⟩ <;> rcases h2 with h2 | ⟨e2, h2⟩
  · exact .inl (List.lt_trans h1 h2)
  · exact .inl (e2 ▸ h1)
  · exact .inl (e1 ▸ h2)
  · exact .inr ⟨e1.trans e2, List.lt_trans h1 h2⟩
theorem Lt.tri (x y : Pr) : Lt x y ∨ x = y ∨ Lt y x := by
  rcases UriO.tri x.1 y.1 with h | h | h
  · exact .inl (.inl h)
  · rcases UriO.tri x.2 y.2 with h2 | h2 | h2
    · exact .inl (.inr ⟨h, h2⟩)
    · exact .inr (.inl (Prod.ext h h2))
    · exact .inr (.inr (.inr ⟨h.symm, h2⟩))
  · exact .inr (.inr (.inl h))
theorem swo : SWO (ltOf cf) where
  irrefl x := (lt_cf_false x x).2 (Lt.irrefl x)
  trans x y z h1 h2 := (lt_cf x z).2 (((lt_cf _ _).1 h1).trans ((lt_cf _ _).1 h2))
  ntrans x y z h1 h2 := by
    rw [lt_cf_false] at *
    intro h
    rcases Lt.tri x y with a | rfl | a
    · exact h1 a
    · exact h2 h
    · rcases Lt.tri y z with b | rfl | b
      · exact h2 b
      · exact h1 h
      · exact Lt.irrefl _ ((h.trans b).trans a)
theorem parts (x y : Pr) (h1 : ltOf cf x y = false) (h2 : ltOf cf y x = false) : x = y := by
  rw [lt_cf_false] at *
  rcases Lt.tri x y with a | a | a
  · exact absurd a h1
  · exact a
  · exact absurd a h2
/-- sorted -/
noncomputable def srt (ps : List Pr) : List Pr := ps.mergeSort fun x y => !ltOf cf y x

/-- a slice of pairs: its address bears no spot -/
def Flat (a : Option Addr) : Prop := ∀ p, a = some p → ∃ b o, p = ⟨b, o, none⟩
theorem own_flat {w : World} {base : Nat} {e : TypeId} {size : Nat} {a : Option Addr} {n c k : Nat} {xs : List Value} (h : w.ownsRow base e size (.slice a n c) k xs) : Flat a := by
  rcases h.2 with ⟨h, _⟩ | ⟨g, cap, cur, hv, _⟩
  · cases h; exact fun p hp => nomatch hp
  · cases hv; exact fun p hp => ⟨g, 0, (Option.some.inj hp).symm⟩
theorem pcells_length (ps : List Pr) : (pcells ps).length = ps.length * 2 := by
  induction ps with
  | nil => rfl
  | cons p t ih => simp [pcells] at ih ⊢; omega
theorem pcells_at {w : World} {b : Nat} : ∀ (ps : List Pr) (o : Nat), (∀ (j : Nat) p, ps[j]? = some p → w.cell? ⟨b, o + j * 2, none⟩ = some (.string ⟨p.1.toArray⟩) ∧ w.cell? ⟨b, o + j * 2 + 1, none⟩ = some (.string ⟨p.2.toArray⟩)) →
    ∀ j u, (pcells ps)[j]? = some u → w.cell? ⟨b, o + j, none⟩ = some u
  | [], _, _, j, u, h => by simp [pcells] at h
  | p :: t, o, H, 0, u, h => by
    have h0 := (H 0 p rfl).1
    simp [pcells] at h
    subst h; simpa using h0
  | p :: t, o, H, 1, u, h => by
    have h0 := (H 0 p rfl).2
    simp [pcells] at h
    subst h; simpa using h0
  | p :: t, o, H, j + 2, u, h => by
    have ih := pcells_at (b := b) t (o + 2) (fun j q hq => by
      have := H (j + 1) q (by simpa using hq)
      have e1 : o + (j + 1) * 2 = o + 2 + j * 2 := by omega
      rw [e1] at this
      exact this) j u (by simpa [pcells] using h)
    have e : o + (j + 2) = o + 2 + j := by omega
    rw [e]; exact ih

theorem sizePair (w : World) : (Go.sizeOf 93).run Tryd.prog w = .ok 2 w := by
  have h := infoPair
  cases hi : Tryd.prog.info? 93 with
  | none => rw [hi] at h; cases h
  | some i =>
    rw [hi] at h
    have hs : i.size = 2 := by have := congrArg (fun o => o.map (·.2.1)) h; simpa using this
    simp [sizeOf, typeInfo, hi, hs]
theorem aggPair (w : World) : (isAgg 93).run Tryd.prog w = .ok true w := by
  simp [isAgg, run_underlying UriL.undPair]

theorem clone {a : Option Addr} {ps : List Pr} (c : Nat) (w : World) (hf : Flat a) (hp : Pairs w a ps) (hl : ps.length ≤ 4294967296) :
    Calls Tryd.prog 91 #[.slice a ps.length c] w fun e w' => ∃ v', e = .returned v' ∧ w'.ownsRow w.heap.size 93 2 v' ps.length (pcells ps) ∧ Below w.heap.size w w' := by
  cases a with
  | none =>
    have e : ps = [] := by
      rcases hp with h | ⟨b, o, h, _⟩
      · exact h
      · cases h
    subst e
    exact (AnyE.slices_Clone_nil Tryd.clonePair 0 c w).mono fun e w' ⟨h1, h2⟩ => ⟨_, h1, ⟨rfl, .inl ⟨rfl, rfl⟩⟩, h2 ▸ Below.refl _ _⟩
  | some p =>
    obtain ⟨b, o, rfl⟩ := hf p rfl
    have hi := infoPair
    cases hI : Tryd.prog.info? 93 with
    | none => rw [hI] at hi; cases hi
    | some i =>
      rw [hI] at hi
      have hi2 : (i.zero, i.size, i.bytes) = (some (.agg #[.string ⟨#[]⟩, .string ⟨#[]⟩]), 2, 32) := by simpa using hi
      simp only [Prod.mk.injEq] at hi2
      refine (AnyE.slices_Clone Tryd.clonePair i _ 2 32 hI hi2.1 hi2.2.1 hi2.2.2 rfl (by decide) sizePair b o ps.length c (pcells ps) w (pcells_length ps) (by simp only [maxLen]; omega) (by omega) ?_ ?_).mono fun e w' ⟨v', h1, h2, _, h3⟩ => ⟨v', h1, h2, h3⟩
      · rcases hp with h | ⟨b', o', h, _, H⟩
        · subst h; intro j u hj; simp [pcells] at hj
        · cases h; exact pcells_at ps o H
      · intro u hu
        simp only [pcells, List.mem_flatMap, List.mem_cons, List.not_mem_nil, or_false] at hu
        obtain ⟨q, _, rfl | rfl⟩ := hu <;> rfl

theorem enc_at (x : Pr) : (enc x)[0]! = .string ⟨x.1.toArray⟩ ∧ (enc x)[1]! = .string ⟨x.2.toArray⟩ := ⟨rfl, rfl⟩
theorem flat_at (d : Array Pr) (j : Nat) (h : j < d.size) : (flatK enc 2 d)[j * 2]! = .string ⟨d[j]!.1.toArray⟩ ∧ (flatK enc 2 d)[j * 2 + 1]! = .string ⟨d[j]!.2.toArray⟩ := by
  rw [get_flatK _ _ _ _ (by omega), get_flatK _ _ _ _ (by omega)]
  rw [show j * 2 / 2 = j by omega, show j * 2 % 2 = 0 by omega, show (j * 2 + 1) / 2 = j by omega, show (j * 2 + 1) % 2 = 1 by omega]
  exact enc_at _
theorem holds_pairs {w : World} {g : Nat} {d : Array Pr} (h : HoldsK enc 2 w g 0 d) (hg : g < w.heap.size) : Pairs w (some ⟨g, 0, none⟩) d.toList := by
  refine .inr ⟨g, 0, rfl, hg, fun j p hj => ?_⟩
  have hj' : j < d.size := by
    have := (List.getElem?_eq_some_iff.1 hj).1
    simpa using this
  have hp : d[j]! = p := by
    rw [getElem!_pos d j hj']
    have := (List.getElem?_eq_some_iff.1 hj).2
    simpa using this
  obtain ⟨f1, f2⟩ := flat_at d j hj'
  have k1 := (h (j * 2) (by rw [size_flatK]; omega)).1
  have k2 := (h (j * 2 + 1) (by rw [size_flatK]; omega)).1
  rw [f1, hp] at k1
  rw [f2, hp] at k2
  exact ⟨k1, by rw [Nat.add_assoc]; exact k2⟩
theorem own_holds {w : World} {base g : Nat} {n c : Nat} {ps : List Pr} (h : w.ownsRow base 93 2 (.slice (some ⟨g, 0, none⟩) n c) ps.length (pcells ps)) : HoldsK enc 2 w g 0 ps.toArray ∧ g < w.heap.size ∧ base ≤ g := by
  rcases h.2 with ⟨h, _⟩ | ⟨g', cap, cur, hv, hb, hg, hn, hm, hcs, htk⟩
  · cases h
  · cases hv
    refine ⟨fun j hj => ?_, (Array.getElem?_eq_some_iff.1 hg).1, hb⟩
    rw [size_flatK] at hj
    have hk : j / 2 < ps.length := by simp at hj; omega
    obtain ⟨q1, q2⟩ := pcells_get (List.getElem?_eq_getElem hk)
    have hu : (pcells ps)[j]? = some ((enc ps[j / 2])[j % 2]!) := by
      rcases Nat.mod_two_eq_zero_or_one j with hm | hm
      · rw [hm, (enc_at _).1]
        exact (congrArg (fun k => (pcells ps)[k]?) (show j = j / 2 * 2 by omega)).trans q1
      · rw [hm, (enc_at _).2]
        exact (congrArg (fun k => (pcells ps)[k]?) (show j = j / 2 * 2 + 1 by omega)).trans q2
    have hc := h.cells (g := g) rfl j _ hu
    rw [UriA.addr_add] at hc
    refine ⟨hc.trans ?_, Lib.frozen_of_heap hg _⟩
    show some _ = some ((flatK enc 2 ps.toArray)[j]!)
    rw [get_flatK _ _ _ _ hj]
    have hx : ps.toArray[j / 2]! = ps[j / 2] := by rw [getElem!_pos ps.toArray (j / 2) (by simpa using hk)]; simp
    rw [hx]
theorem below_sorted {w : World} {g off n B : Nat} {d : Array Pr} {os : Array Obj} (h : B ≤ g) (hB : B ≤ w.heap.size) : Below B w (sortWorldK enc 2 w g off n d os) := by
  have hs : (sortWorldK enc 2 w g off n d os).heap = w.heap.modify g (onCells (putCells id off (flatK enc 2 d))) ++ os := rfl
  refine ⟨rfl, rfl, rfl, ?_, fun k hk => ?_⟩
  · rw [hs]; simp
  · rw [hs, Array.getElem?_append_left (by simp; omega), Array.getElem?_modify, if_neg (by omega)]

theorem sort {base : Nat} {a : Option Addr} {ps : List Pr} (c : Nat) (w : World) (h : w.ownsRow base 93 2 (.slice a ps.length c) ps.length (pcells ps)) (hl : ps.length ≤ 4294967296) (hB : base ≤ w.heap.size) :
    Calls Tryd.prog 92 #[.slice a ps.length c, .func (.func 93) #[] #[]] w fun e w' => e = .returned (.tuple #[]) ∧ Pairs w' a (srt ps) ∧ Below base w w' := by
  cases a with
  | none =>
    have e : ps = [] := by
      rcases h.2 with ⟨_, h⟩ | ⟨g, cap, cur, hv, _⟩
      · exact List.eq_nil_of_length_eq_zero h
      · cases hv
    subst e
    refine (AnyF.slices_SortFunc_none Tryd.sortPair none c _ w).mono fun e w' ⟨h1, h2⟩ => ⟨h1, .inl (by simp [srt]), h2 ▸ Below.refl _ _⟩
  | some p =>
    obtain ⟨b, o, rfl⟩ := own_flat h p rfl
    obtain rfl : o = 0 := by
      rcases h.2 with ⟨h, _⟩ | ⟨g, cap, cur, hv, _⟩
      · cases h
      · cases hv; rfl
    obtain ⟨hH, hb, hbb⟩ := own_holds h
    have eg : ∀ args w, (callFunc 93 args).run Tryd.prog w = .ok (.enter 93 args) w := enters_of Tryd.func93 (by kernel_rfl) rfl
    have hcon := AnyQ.slices_SortFunc_total Tryd.sortPair 2 aggPair sizePair enc (fun _ => rfl) (fun x v hv => by simp [enc] at hv; rcases hv with rfl | rfl <;> rfl) cf swo 93 #[] b 0 c ps.toArray w eg
      (fun m os dk _ x y => closure x y _) hH hb (by simp; omega) parts
    refine hcon.mono ?_
    rintro e w' ⟨he, n, os, rfl⟩
    refine ⟨he, ?_, below_sorted hbb hB⟩
    have hk : AtK enc 2 w b 0 (ps.toArray.toList.mergeSort fun x y => !ltOf cf y x).toArray (sortWorldK enc 2 w b 0 n (ps.toArray.toList.mergeSort fun x y => !ltOf cf y x).toArray os) := ⟨n, os, rfl⟩
    obtain ⟨h1, h2⟩ := hk.holds hH (by simp) hb
    exact holds_pairs h1 h2
end Go.Proofs.YtmimkgfkicgfiaaDoor.UriO
