/-
  Targets, plainly: what is written is read as it was; sorted pairs. Plain: signed requests. The walk of bollard/uri's Canonical and Join.
-/
import Derived.Test.YtidflagmdabfaaaGreatDoorSg10
import Derived.Test.YtidflagmdabfaaaGreatDoorSg13
import Derived.Test.YtidflagmdabfaaaGreatDoorSg14
import Derived.Deep.RegionHeld3
import Derived.Deep.AppendLies
namespace Go.Proofs.YtidflagmdabfaaaGreatDoor.UriR
open Go.Proofs.YtidflagmdabfaaaGreatDoor Go.Proofs.YtidflagmdabfaaaGreatDoor.UriN Go.Proofs.YtidflagmdabfaaaGreatDoor.UriO Go.Sort

/-- a pair's text -/
def pt (q : Pr) : List UInt8 := UriD.enc false q.1 ++ [61] ++ UriD.enc false q.2
/-- a query's text -/
noncomputable def qt (ps : List Pr) : List UInt8 := Lib.join ((srt ps).map pt) [38]
theorem srt_length (ps : List Pr) : (srt ps).length = ps.length := by simp [srt]
theorem srt_mem {ps : List Pr} {q : Pr} (h : q ∈ srt ps) : q ∈ ps := by simpa [srt] using h

/-! sorted pairs -/
def le (x y : Pr) : Bool := !ltOf cf y x
theorem le_iff (x y : Pr) : le x y = true ↔ ¬ Lt y x := by simp [le, lt_cf_false]
theorem le_trans (x y z : Pr) (h1 : le x y = true) (h2 : le y z = true) : le x z = true := by
  simp only [le, Bool.not_eq_true'] at *
  exact swo.ntrans z y x h2 h1
theorem le_total (x y : Pr) : (le x y || le y x) = true := by
  rw [Bool.or_eq_true, le_iff, le_iff]
  rcases Lt.tri x y with h | h | h
  · exact .inl fun h2 => Lt.irrefl _ (h.trans h2)
  · subst h; exact .inl (Lt.irrefl _)
  · exact .inr fun h2 => Lt.irrefl _ (h.trans h2)
theorem le_antisymm {x y : Pr} (h1 : le x y = true) (h2 : le y x = true) : x = y := by
  simp only [le, Bool.not_eq_true'] at *
  exact parts x y h2 h1
theorem srt_pairwise (ps : List Pr) : (srt ps).Pairwise fun x y => le x y = true := List.pairwise_mergeSort le_trans le_total ps
theorem srt_perm (ps : List Pr) : (srt ps).Perm ps := List.mergeSort_perm _ _
theorem srt_unique {ps qs : List Pr} (h : qs.Pairwise fun x y => le x y = true) (hp : qs.Perm ps) : qs = srt ps :=
  List.Perm.eq_of_pairwise (le := fun x y => le x y = true) (fun _ _ _ _ h1 h2 => le_antisymm h1 h2) h (srt_pairwise ps) (hp.trans (srt_perm ps).symm)
theorem srt_srt (ps : List Pr) : srt (srt ps) = srt ps := (srt_unique (srt_pairwise ps) (List.Perm.refl _)).symm
theorem le_refl (x : Pr) : le x x = true := by rw [le_iff]; exact Lt.irrefl x
theorem le_of_lt {x y : Pr} (h : Lt x y) : le x y = true := by rw [le_iff]; exact fun h2 => Lt.irrefl _ (h.trans h2)
/-- a pair at its place in a sorted row -/
theorem insert_ok {qs : List Pr} {p : Pr} {m : Nat} (h : qs.Pairwise fun x y => le x y = true) (h1 : ∀ (j : Nat) q, m ≤ j → qs[j]? = some q → Lt p q) (h2 : m = 0 ∨ ∃ q, qs[m - 1]? = some q ∧ ¬ Lt p q) :
    (qs.take m ++ p :: qs.drop m).Pairwise fun x y => le x y = true := by
  have hsp : (qs.take m ++ qs.drop m).Pairwise fun x y => le x y = true := by rw [List.take_append_drop]; exact h
  rw [List.pairwise_append] at hsp ⊢
  obtain ⟨s1, s2, s3⟩ := hsp
  have hd : ∀ q ∈ qs.drop m, Lt p q := fun q hq => by
    obtain ⟨j, hj⟩ := List.mem_iff_getElem?.1 hq
    rw [List.getElem?_drop] at hj
    exact h1 (m + j) q (by omega) hj
  have ht : ∀ x ∈ qs.take m, le x p = true := fun x hx => by
    obtain ⟨j, hj⟩ := List.mem_iff_getElem?.1 hx
    rw [List.getElem?_take] at hj
    split at hj
    · rename_i hjm
      rcases h2 with h2 | ⟨q, hq, hnl⟩
      · omega
      · have hqp : le q p = true := (le_iff q p).2 hnl
        by_cases e : j = m - 1
        · subst e; rw [hj] at hq; cases hq; exact hqp
        · obtain ⟨hj1, hj2⟩ := List.getElem?_eq_some_iff.1 hj
          obtain ⟨hq1, hq2⟩ := List.getElem?_eq_some_iff.1 hq
          have := List.pairwise_iff_getElem.1 h j (m - 1) hj1 hq1 (by omega)
          rw [hj2, hq2] at this
          exact le_trans _ _ _ this hqp
    · cases hj
  refine ⟨s1, List.pairwise_cons.2 ⟨fun q hq => le_of_lt (hd q hq), s2⟩, fun x hx y hy => ?_⟩
  rcases List.mem_cons.1 hy with rfl | hy
  · exact ht x hx
  · exact s3 x hx y hy
theorem insert_perm {qs ps : List Pr} {p : Pr} {k : Nat} (m : Nat) (h : qs.Perm (ps.take k)) (hk : ps[k]? = some p) : (qs.take m ++ p :: qs.drop m).Perm (ps.take (k + 1)) := by
  rw [List.take_add_one, hk]
  refine List.perm_middle.trans ?_
  rw [List.take_append_drop]
  exact (h.cons p).trans (List.perm_append_comm (l₁ := [p]) (l₂ := ps.take k))
theorem srt_nil : srt [] = [] := by simp [srt]
theorem srt_one (q : Pr) : srt [q] = [q] := by simp [srt]

/-! what is encoded is decoded -/
/-- bytes that can be seen -/
def Vis (l : List UInt8) : Prop := ∀ c ∈ l, 32 ≤ c ∧ c ≤ 126
theorem step_vis {s : List UInt8} {c : UInt8} {r : List UInt8} (h : Up.step s = some (c, r)) : 32 ≤ c ∧ c ≤ 126 := by
  unfold Up.step at h
  split at h
  · cases h
  · rename_i d t
    split at h
    · split at h
      · rename_i a b u
        split at h
        · rename_i x y _ _
          split at h
          · rename_i e
            have hc := (Prod.mk.inj (Option.some.inj h)).1
            rw [← hc, UInt8.le_iff_toNat_le, UInt8.le_iff_toNat_le]
            have : (UInt8.ofNat (16 * x + y)).toNat = 16 * x + y := by
              rw [UInt8.toNat_ofNat']; omega
            rw [this]
            exact e
          · cases h
        · cases h
      · cases h
    · split at h
      · rename_i e
        simp at h
        obtain ⟨rfl, _⟩ := h
        exact e
      · cases h
theorem dec_vis {s l : List UInt8} (h : Up.dec s = some l) : Vis l ∧ l.length ≤ s.length := by
  induction hn : s.length using Nat.strongRecOn generalizing s l with
  | ind n ih =>
    by_cases hs : s = []
    · subst hs
      rw [Up.dec_nil] at h
      cases h
      exact ⟨by simp [Vis], by simp⟩
    · cases hst : Up.step s with
      | none => rw [Up.dec_none hs hst] at h; cases h
      | some p =>
        obtain ⟨c, r⟩ := p
        rw [Up.dec_some hst] at h
        cases hr : Up.dec r with
        | none => rw [hr] at h; cases h
        | some t =>
          rw [hr] at h
          obtain rfl : c :: t = l := by simpa using h
          have hlt := Up.step_len hst
          obtain ⟨i1, i2⟩ := ih r.length (by omega) hr rfl
          refine ⟨fun d hd => ?_, by simp; omega⟩
          rcases List.mem_cons.1 hd with rfl | hd
          · exact step_vis hst
          · exact i1 d hd
theorem hexv_hx : ∀ n : Fin 16, Up.hexv (UriD.hx n.1) = some n.1 := by decide +kernel
theorem pl37 : UriD.pl 37 = false := by decide
theorem step_enc (slash : Bool) (c : UInt8) (h : 32 ≤ c ∧ c ≤ 126) (r : List UInt8) : Up.step (UriD.enc1 slash c ++ r) = some (c, r) := by
  unfold UriD.enc1
  split
  · rename_i hs
    have hc : c ≠ 37 := by
      rintro rfl
      simp [UriD.self, pl37] at hs
    simp [Up.step, hc, h]
  · have h1 := UInt8.le_iff_toNat_le.1 h.1
    have h2 := UInt8.le_iff_toNat_le.1 h.2
    simp at h1 h2
    have e1 := hexv_hx ⟨c.toNat / 16, by omega⟩
    have e2 := hexv_hx ⟨c.toNat % 16, by omega⟩
    simp only at e1 e2
    have e3 : 16 * (c.toNat / 16) + c.toNat % 16 = c.toNat := by omega
    simp [Up.step, e1, e2, e3, h1, h2]
theorem enc_cons (slash : Bool) (c : UInt8) (l : List UInt8) : UriD.enc slash (c :: l) = UriD.enc1 slash c ++ UriD.enc slash l := by simp [UriD.enc]
theorem dec_enc (slash : Bool) (l : List UInt8) (h : Vis l) : Up.dec (UriD.enc slash l) = some l := by
  induction l with
  | nil => exact Up.dec_nil
  | cons c t ih =>
    rw [enc_cons, Up.dec_some (step_enc slash c (h c (by simp)) _), ih fun d hd => h d (by simp [hd])]
    rfl
theorem hx_free : ∀ n : Fin 16, UriD.hx n.1 ≠ 63 ∧ UriD.hx n.1 ≠ 38 ∧ UriD.hx n.1 ≠ 61 := by decide +kernel
theorem enc_free {slash : Bool} {d : UInt8} (hd : d = 63 ∨ d = 38 ∨ d = 61) (l : List UInt8) : d ∉ UriD.enc slash l := by
  intro h
  simp only [UriD.enc, List.mem_flatMap] at h
  obtain ⟨c, _, h⟩ := h
  unfold UriD.enc1 at h
  split at h
  · rename_i hs
    simp at h
    subst h
    rcases hd with rfl | rfl | rfl <;> exact absurd hs (by cases slash <;> decide)
  · have hc := UInt8.toNat_lt c
    obtain ⟨a1, a2, a3⟩ := hx_free ⟨c.toNat / 16, by omega⟩
    obtain ⟨b1, b2, b3⟩ := hx_free ⟨c.toNat % 16, by omega⟩
    simp only [List.mem_cons, List.not_mem_nil, or_false] at h
    rcases hd with rfl | rfl | rfl
    · rcases h with h | h | h
      · exact absurd h (by decide)
      · exact a1 h.symm
      · exact b1 h.symm
    · rcases h with h | h | h
      · exact absurd h (by decide)
      · exact a2 h.symm
      · exact b2 h.symm
    · rcases h with h | h | h
      · exact absurd h (by decide)
      · exact a3 h.symm
      · exact b3 h.symm

/-! a whole target -/
/-- the joined target -/
noncomputable def jn (p : List UInt8) (ps : List Pr) : List UInt8 := if qt ps = [] then UriD.enc true p else UriD.enc true p ++ [63] ++ qt ps
theorem splits_tail (l : List (List UInt8)) (x : List UInt8) (hx : (38 : UInt8) ∉ x) (h : ∀ y ∈ l, (38 : UInt8) ∉ y) : Up.splits 38 (x ++ Lib.joinTail [38] l) = x :: l := by
  induction l generalizing x with
  | nil => simp only [Lib.joinTail, List.map_nil, List.flatten_nil, List.append_nil]; exact Up.splits_free hx
  | cons y r ih =>
    have e : x ++ Lib.joinTail [38] (y :: r) = x ++ 38 :: (y ++ Lib.joinTail [38] r) := by simp [Lib.joinTail]
    rw [e, Up.splits_at hx, ih y (h y (by simp)) fun z hz => h z (by simp [hz])]
theorem pt_free (q : Pr) : (38 : UInt8) ∉ pt q := by
  unfold pt
  simp only [List.mem_append, List.mem_singleton, not_or]
  exact ⟨⟨enc_free (.inr (.inl rfl)) _, by decide⟩, enc_free (.inr (.inl rfl)) _⟩
theorem pt_ne (q : Pr) : pt q ≠ [] := by simp [pt]
theorem pair_pt (q : Pr) (h1 : Vis q.1) (h2 : Vis q.2) : Up.pair (pt q) = some q := by
  have e : Up.cutAt 61 (pt q) = (UriD.enc false q.1, UriD.enc false q.2) := by
    unfold pt
    rw [List.append_assoc, List.singleton_append]
    exact Up.cutAt_at (enc_free (.inr (.inr rfl)) _)
  simp only [Up.pair, e, dec_enc false _ h1, dec_enc false _ h2]
theorem pairs_pt (l : List Pr) (h : ∀ q ∈ l, Vis q.1 ∧ Vis q.2) : Up.pairs (l.map pt) = some l := by
  induction l with
  | nil => rfl
  | cons q r ih =>
    obtain ⟨h1, h2⟩ := h q (by simp)
    simp only [List.map_cons, Up.pairs, if_neg (pt_ne q), pair_pt q h1 h2, ih fun z hz => h z (by simp [hz])]
    rfl
theorem pairs_qt (ps : List Pr) (h : ∀ q ∈ ps, Vis q.1 ∧ Vis q.2) : Up.pairs (Up.splits 38 (qt ps)) = some (srt ps) := by
  unfold qt
  cases hs : srt ps with
  | nil => simp [Lib.join_nil, Up.splits, Up.pairs]
  | cons q r =>
    rw [List.map_cons, Lib.join_cons, splits_tail _ _ (pt_free q) (fun y hy => by
      obtain ⟨z, _, rfl⟩ := List.mem_map.1 hy
      exact pt_free z), ← List.map_cons, ← hs]
    exact pairs_pt _ fun z hz => h z (srt_mem hz)
theorem enc_head (t : List UInt8) : (UriD.enc true (47 :: t)).head? = some 47 := by
  rw [enc_cons]
  have : UriD.enc1 true 47 = [47] := by decide
  rw [this]
  rfl
/-- what is written is read as it was -/
theorem parse_jn (p : List UInt8) (ps : List Pr) (hp : Vis p) (hh : p.head? = some 47) (h : ∀ q ∈ ps, Vis q.1 ∧ Vis q.2) : Up.parse (jn p ps) = some ⟨p, srt ps⟩ := by
  have e : Up.cutAt 63 (jn p ps) = (UriD.enc true p, qt ps) := by
    unfold jn
    split
    · rename_i hq
      rw [hq]
      exact Up.cutAt_free (enc_free (.inl rfl) _)
    · rw [List.append_assoc, List.singleton_append]
      exact Up.cutAt_at (enc_free (.inl rfl) _)
  have eh : (jn p ps).head? = some 47 := by
    obtain ⟨t, rfl⟩ : ∃ t, p = 47 :: t := by
      cases p with
      | nil => cases hh
      | cons c t => simp at hh; exact ⟨t, by rw [hh]⟩
    have h1 := enc_head t
    unfold jn
    split
    · exact h1
    · rw [List.append_assoc, List.head?_append, h1]; rfl
  simp only [Up.parse, e, dec_enc true p hp, eh, if_true, pairs_qt ps h]
  rfl
theorem jn_srt (p : List UInt8) (ps : List Pr) : jn p (srt ps) = jn p ps := by unfold jn qt; rw [srt_srt]

/-! lengths -/
def sz (ps : List Pr) : Nat := (ps.map fun q => q.1.length + q.2.length).sum
theorem lens_pt (l : List Pr) : Lib.lens (l.map pt) ≤ 3 * sz l + l.length := by
  induction l with
  | nil => simp [Lib.lens, sz]
  | cons q r ih =>
    have h1 := UriD.enc_len false q.1
    have h2 := UriD.enc_len false q.2
    have h3 : (pt q).length = (UriD.enc false q.1).length + 1 + (UriD.enc false q.2).length := by simp [pt]; omega
    simp only [Lib.lens, sz, List.map_cons, List.sum_cons, List.length_cons] at ih ⊢
    omega
theorem sz_srt (ps : List Pr) : sz (srt ps) = sz ps := ((srt_perm ps).map _).sum_nat
theorem qt_len (ps : List Pr) : (qt ps).length ≤ 3 * sz ps + 2 * ps.length := by
  have h1 := lens_pt (srt ps)
  rw [sz_srt, srt_length] at h1
  have h2 := srt_length ps
  unfold qt
  cases hs : srt ps with
  | nil => simp [Lib.join_nil]
  | cons q r =>
    rw [hs] at h1 h2
    rw [List.map_cons, Lib.join_cons, List.length_append, Lib.joinTail_length]
    simp only [Lib.lens, List.map_cons, List.sum_cons, List.length_cons, List.length_map, List.length_nil] at h1 h2 ⊢
    omega
theorem jn_len (p : List UInt8) (ps : List Pr) : (jn p ps).length ≤ 3 * p.length + 1 + 3 * sz ps + 2 * ps.length := by
  have h1 := qt_len ps
  have h2 := UriD.enc_len true p
  unfold jn
  split
  · omega
  · simp only [List.length_append, List.length_singleton]; omega
theorem sz_mem {ps : List Pr} {q : Pr} (h : q ∈ ps) : q.1.length + q.2.length ≤ sz ps := by
  induction ps with
  | nil => cases h
  | cons x r ih =>
    simp only [sz, List.map_cons, List.sum_cons] at ih ⊢
    rcases List.mem_cons.1 h with rfl | h
    · omega
    · have := ih h; omega
theorem pair_len {p : List UInt8} {q : Pr} (h : Up.pair p = some q) : q.1.length + q.2.length ≤ p.length ∧ Vis q.1 ∧ Vis q.2 := by
  unfold Up.pair at h
  have hc := Up.cutAt_len 61 p
  split at h
  · rename_i n v h1 h2
    cases h
    obtain ⟨a1, a2⟩ := dec_vis h1
    obtain ⟨b1, b2⟩ := dec_vis h2
    exact ⟨by simp only; omega, a1, b1⟩
  · cases h
theorem pairs_sz {l : List (List UInt8)} {ps : List Pr} (h : Up.pairs l = some ps) : sz ps ≤ Lib.lens l ∧ ∀ q ∈ ps, Vis q.1 ∧ Vis q.2 := by
  induction l generalizing ps with
  | nil => simp [Up.pairs] at h; subst h; simp [sz]
  | cons p r ih =>
    simp only [Up.pairs] at h
    split at h
    · obtain ⟨i1, i2⟩ := ih h
      refine ⟨?_, i2⟩
      simp only [Lib.lens, List.map_cons, List.sum_cons] at i1 ⊢
      omega
    · cases hp : Up.pair p with
      | none => rw [hp] at h; cases h
      | some q =>
        rw [hp] at h
        cases hr : Up.pairs r with
        | none => rw [hr] at h; cases h
        | some t =>
          rw [hr] at h
          obtain rfl : q :: t = ps := by simpa using h
          obtain ⟨i1, i2⟩ := ih hr
          obtain ⟨j1, j2⟩ := pair_len hp
          constructor
          · simp only [Lib.lens, sz, List.map_cons, List.sum_cons] at i1 ⊢
            omega
          · intro z hz
            rcases List.mem_cons.1 hz with rfl | hz
            · exact j2
            · exact i2 z hz
theorem lens_splits (s : List UInt8) : Lib.lens (Up.splits 38 s) ≤ s.length := by
  induction s with
  | nil => simp [Up.splits, Lib.lens]
  | cons x t ih =>
    unfold Up.splits
    split
    · simp only [Lib.lens, List.map_cons, List.sum_cons, List.length_nil, List.length_cons] at ih ⊢; omega
    · split
      · rename_i e
        rw [e] at ih
        simp only [Lib.lens, List.map_cons, List.sum_cons, List.length_cons] at ih ⊢; omega
      · simp [Lib.lens]
/-- what is read -/
structure Read (t : List UInt8) (u : Up.Uri) : Prop where
  path : Vis u.path
  head : u.path.head? = some 47
  query : ∀ q ∈ u.query, Vis q.1 ∧ Vis q.2
  sizes : u.path.length + sz u.query ≤ t.length
  count : u.query.length ≤ t.length + 1
theorem parse_read {t : List UInt8} {u : Up.Uri} (h : Up.parse t = some u) : Read t u := by
  simp only [Up.parse] at h
  cases hd : Up.dec (Up.cutAt 63 t).1 with
  | none => rw [hd] at h; cases h
  | some p =>
    rw [hd] at h
    by_cases hh : t.head? = some 47
    · simp only [if_pos hh] at h
      cases hq : Up.pairs (Up.splits 38 (Up.cutAt 63 t).2) with
      | none => rw [hq] at h; cases h
      | some ps =>
        rw [hq] at h
        cases h
        have h1 := Up.pairs_length hq
        have h2 := Up.splits_length 38 (Up.cutAt 63 t).2
        have h3 := Up.cutAt_len 63 t
        obtain ⟨v1, v2⟩ := dec_vis hd
        obtain ⟨s1, s2⟩ := pairs_sz hq
        have h4 := lens_splits (Up.cutAt 63 t).2
        refine ⟨v1, ?_, s2, by simp only; omega, by simp only; omega⟩
        obtain ⟨r, rfl⟩ : ∃ r, t = 47 :: r := by
          cases t with
          | nil => cases hh
          | cons c r => simp at hh; exact ⟨r, by rw [hh]⟩
        have e : (Up.cutAt 63 (47 :: r)).1 = 47 :: (Up.cutAt 63 r).1 := by
          simp [Up.cutAt]
        rw [e, Up.dec_some (show Up.step (47 :: (Up.cutAt 63 r).1) = some (47, (Up.cutAt 63 r).1) by simp [Up.step])] at hd
        cases hr : Up.dec (Up.cutAt 63 r).1 with
        | none => rw [hr] at hd; cases hd
        | some x => rw [hr] at hd; simp at hd; subst hd; rfl
    · simp only [if_neg hh] at h; cases h
end Go.Proofs.YtidflagmdabfaaaGreatDoor.UriR
namespace Go.Proofs.YtidflagmdabfaaaGreatDoor.Sg
open Go.Proofs.YtidflagmdabfaaaGreatDoor.Nm

/-- the six lines -/
noncomputable def lines (m : List UInt8) (u : Up.Uri) (bd : List UInt8) (date : Int) : List UInt8 :=
  scheme ++ [10] ++ Lib.itoa date ++ [10] ++ m ++ [10] ++ UriD.enc true u.path ++ [10] ++ UriR.qt u.query ++ [10] ++ hex (Sha.sha bd)
/-- what is signed -/
noncomputable def text (m t bd : List UInt8) (date : Int) : Ans (List UInt8) :=
  match Up.parse t with
  | none => .no .uri
  | some u => if goodDate date = true then .ok (lines m u bd date) else .no .req
/-- the fields of a signed request -/
noncomputable def sign (m t bd : List UInt8) (fs : List Fld) (name secret : List UInt8) (date : Int) : Ans (List Fld) :=
  match text m t bd date with
  | .no e => .no e
  | .ok x => if goodName name = true then .ok (others fs ++ two date name (sigOf x secret date)) else .no .req
noncomputable def check (m t bd : List UInt8) (fs : List Fld) (keys : List Fld) (now : Int) : Ans (List UInt8) :=
  match Up.parse t with
  | none => .no .uri
  | some u => match claimed fs with
    | none => .no .req
    | some (n, name, hex) => among (lines m u bd n) name hex n now keys
end Go.Proofs.YtidflagmdabfaaaGreatDoor.Sg
namespace Go.Proofs.YtidflagmdabfaaaGreatDoor.UriP
open Go.RowKit Go.Proofs.YtidflagmdabfaaaGreatDoor Go.Proofs.YtidflagmdabfaaaGreatDoor.UriC Go.Proofs.YtidflagmdabfaaaGreatDoor.UriN Go.Proofs.YtidflagmdabfaaaGreatDoor.UriO Go.Proofs.YtidflagmdabfaaaGreatDoor.UriR

theorem infoString : (Tryz.prog.info? 9).map (fun i => (i.zero, i.size, i.bytes)) = some (some (.string ⟨#[]⟩), 1, 16) := by kernel_rfl
theorem info_parts {o : Option TypeInfo} {z : Value} {s b : Nat} (h : o.map (fun i => (i.zero, i.size, i.bytes)) = some (some z, s, b)) : ∃ i0, o = some i0 ∧ i0.zero = some z ∧ i0.size = s ∧ i0.bytes = b := by
  cases o with
  | none => cases h
  | some i => simp at h; exact ⟨i, rfl, h.1, h.2.1, h.2.2⟩
theorem encodeK (l : List UInt8) (slash : Bool) (w0 : World) (g : Nat) (v0 v1 : Value) (w : World) (hs : l.length ≤ 16777216) (ht : Below w0.heap.size w0 w) (h0 : w.cell? ⟨g, 0, none⟩ = some v0) (h1 : w.cell? ⟨g, 1, none⟩ = some v1) :
    Calls Tryz.prog 120 #[.string ⟨l.toArray⟩, .bool slash] w fun e w' => e = .returned (.string ⟨(UriD.enc slash l).toArray⟩) ∧ (w'.cell? ⟨g, 0, none⟩ = some v0 ∧ w'.cell? ⟨g, 1, none⟩ = some v1) ∧ Below w0.heap.size w0 w' :=
  (UriD.encode ⟨l.toArray⟩ slash w (by rw [Com.size_mk]; exact hs)).mono fun _ _ ⟨he, hb⟩ => ⟨he, ⟨(hb.cell (World.block_lt_of_cell? w _ h0)).trans h0, (hb.cell (World.block_lt_of_cell? w _ h1)).trans h1⟩, ht.trans (hb.mono ht.size)⟩
theorem pt_eq (q : Pr) : (((⟨(UriD.enc false q.1).toArray⟩ : ByteArray) ++ ⟨#[61]⟩) ++ ⟨(UriD.enc false q.2).toArray⟩) = ⟨(pt q).toArray⟩ := by
  unfold pt
  simp only [← Com.mk_append]

theorem join {w : World} {base : Nat} {v : Value} {xs : List ByteArray} (sep : ByteArray) (h : w.ownsRow base 9 1 v xs.length (xs.map Value.string)) (hl : xs.length ≤ 140737488355328) (hj : (Lib.join (xs.map (·.data.toList)) sep.data.toList).length ≤ 140737488355328) :
    Calls Tryz.prog 71 #[v, .string sep] w fun e w' => e = .returned (.string ⟨(Lib.join (xs.map (·.data.toList)) sep.data.toList).toArray⟩) ∧ Below w.heap.size w w' := by
  by_cases hx : xs = []
  · subst hx
    have hv : ∃ a c, v = .slice a 0 c := by
      rcases h.2 with ⟨h, _⟩ | ⟨g, cap, cur, hv, _⟩
      · exact ⟨_, _, h⟩
      · exact ⟨_, _, hv⟩
    obtain ⟨a, c, rfl⟩ := hv
    exact (Tryz.strings_Join_none a c sep w).mono fun e w' ⟨h1, h2⟩ => ⟨h1, h2 ▸ Below.refl _ _⟩
  · rcases h.2 with ⟨_, h⟩ | ⟨g, cap, cur, rfl, hb, hg, hn, hm, hcs, htk⟩
    · exact absurd (List.eq_nil_of_length_eq_zero h) hx
    · refine Tryz.strings_Join g 0 cap xs sep w (fun j x hj => ?_) (Array.getElem?_eq_some_iff.1 hg).1 hl hn hj
      have := h.cells (g := g) rfl j (.string x) (by simp [hj])
      rwa [UriA.addr_add] at this

set_option maxHeartbeats 8000000 in
set_option maxRecDepth 100000 in
theorem canonical (p : ByteArray) {a : Option Addr} {ps : List Pr} (c : Nat) (w : World) (hf : Flat a) (hp : Pairs w a ps) (hl : ps.length ≤ 16777216) (hpl : p.size ≤ 16777216) (hq : ∀ q ∈ ps, q.1.length ≤ 16777216 ∧ q.2.length ≤ 16777216) (hj : (qt ps).length ≤ 140737488355328) :
    Calls Tryz.prog 69 #[.agg #[.string p, .slice a ps.length c]] w fun e w' => e = .returned (.tuple #[.string ⟨(UriD.enc true p.data.toList).toArray⟩, .string ⟨(qt ps).toArray⟩]) ∧ Below w.heap.size w w' := by
  go_enter Tryz.func69, Tryz.ntmps69
  go_wp2_with fail
  refine (clone c _ hf (UriL.Pairs.below hp ((Below.refl _ w).alloc (Nat.le_refl _) _)) (by omega)).mono ?_
  rintro e w1 ⟨v', rfl, hown, hb1⟩
  obtain ⟨a', c', rfl, _, _⟩ := pairs_of_own hown
  have hU1 : UriK.Ub w.heap.size w1 (.string p) (.slice a ps.length c) := (hb1.block _ (by simp)).trans (heap_alloc_new _ _)
  have hB1 : Below w.heap.size w w1 := ((Below.refl _ w).alloc (Nat.le_refl _) _).trans (hb1.mono (by simp))
  go_wp2_with fail
  refine (UriO.sort c' w1 hown (by omega) hb1.size).mono ?_
  rintro e w2 ⟨rfl, hP, hb2⟩
  have hU2 : UriK.Ub w.heap.size w2 (.string p) (.slice a ps.length c) := (hb2.block _ (by simp)).trans hU1
  have hB2 : Below w.heap.size w w2 := hB1.trans (hb2.mono (by simp))
  have hsl : (srt ps).length = ps.length := srt_length ps
  have hsm : ∀ q ∈ srt ps, q.1.length ≤ 16777216 ∧ q.2.length ≤ 16777216 := fun q h => hq q (srt_mem h)
  have hj' : (Lib.join ((srt ps).map pt) [38]).length ≤ 140737488355328 := hj
  generalize hss : srt ps = ss at hP hsl hsm hj'
  have HSS := Lib.hid hss; have HJ := Lib.hid hj'
  clear hss hj'
  have HB2 := Lib.hid hB2; have HU2 := Lib.hid hU2; have HP := Lib.hid hP; have HSL := Lib.hid hsl; have HSM := Lib.hid hsm
  have hwl := hU2.lt
  clear hown hB1 hU1 hb1 hb2 hq hf hp hj hB2 hU2 hP hsl hsm
  obtain ⟨i0, hi, hz0, hz1, hz2⟩ := info_parts infoString
  go_wp2_with fail
  go_loopg [5, 15] ps.length (fun g v5 v15 wr => ∃ k : Nat, k + g = ps.length ∧ v15 = .int .i64 k ∧ wr.ownsRow w2.heap.size 9 1 v5 k ((ss.take k).map fun q => .string ⟨(pt q).toArray⟩) ∧ Below w2.heap.size w2 wr)
  case atStart => exact ⟨0, by simp, rfl, World.ownsRow_nil _ _ _ _, Below.refl _ _⟩
  case round =>
    obtain ⟨k, hkg, rfl, hown, hb⟩ := hrel
    have HG := Lib.hid hkg; clear hkg
    have hsz := hb.size
    by_cases hlt : k < ps.length
    · have hk' : k < ss.length := by rw [HSL.out]; exact hlt
      obtain ⟨q, hqk⟩ : ∃ q, ss[k]? = some q := ⟨ss[k], List.getElem?_eq_getElem hk'⟩
      obtain ⟨b, o, rfl, hbb, hcs⟩ : ∃ b o, a' = some ⟨b, o, none⟩ ∧ b < w2.heap.size ∧ ∀ (j : Nat) p, ss[j]? = some p → w2.cell? ⟨b, o + j * 2, none⟩ = some (.string ⟨p.1.toArray⟩) ∧ w2.cell? ⟨b, o + j * 2 + 1, none⟩ = some (.string ⟨p.2.toArray⟩) := by
        rcases HP.out with h | h
        · rw [h] at hk'; simp at hk'
        · exact h
      obtain ⟨d0, d1⟩ := hcs k q hqk
      have c0 := (hb.cell (p := ⟨b, o + k * 2, none⟩) hbb).trans d0
      have c1 := (hb.cell (p := ⟨b, o + k * 2 + 1, none⟩) hbb).trans d1
      obtain ⟨n1, n2⟩ := HSM.out q (List.mem_of_getElem? hqk)
      have HTK := Lib.hid (show (ss.take (k + 1)).map (fun q => Value.string ⟨(pt q).toArray⟩) = (ss.take k).map (fun q => Value.string ⟨(pt q).toArray⟩) ++ [.string ⟨(pt q).toArray⟩] by rw [List.take_add_one, hqk]; simp)
      have HTL := Lib.hid (show ((ss.take k).map (fun q => Value.string ⟨(pt q).toArray⟩)).length = k by simp; omega)
      generalize hxs : (ss.take k).map (fun q => Value.string ⟨(pt q).toArray⟩) = xs at *
      clear hxs d0 d1 hcs hqk
      obtain ⟨nm, vl⟩ := q
      simp only at c0 c1 n1 n2
      have e1 := UriD.enc_len false nm
      have e2 := UriD.enc_len false vl
      have s1 : ¬ 9223372036854775807 < (UriD.enc false nm).length + 1 := by omega
      have s2 : ¬ 9223372036854775807 < (UriD.enc false nm).length + 1 + (UriD.enc false vl).length := by omega
      have hne : u5.ownBlock ≠ some wr.heap.size := fun h => by have := (hown.lt _ h).2; omega
      have HT : Below wr.heap.size wr (wr.alloc (.cells #[.string ⟨nm.toArray⟩, .string ⟨vl.toArray⟩] 152)) := (Below.refl _ _).alloc (Nat.le_refl _) _
      go_wp2_with fail
      go_region_held3 (fun w' => w'.cell? ⟨wr.heap.size, 0, none⟩ = some (.string ⟨nm.toArray⟩) ∧ w'.cell? ⟨wr.heap.size, 1, none⟩ = some (.string ⟨vl.toArray⟩))
        (first | go_keep | (go_split_ands; refine ⟨?_, ?_⟩ <;> (rw [hg7.cell_far _ (by have := t6.size; simp; omega) (fun h => hne h.symm)]; simp [*])))
        (first
          | (go_at_call 120; refine (encodeK _ _ wr wr.heap.size (.string ⟨nm.toArray⟩) (.string ⟨vl.toArray⟩) _ ?_ ?_ ?_ ?_).mono ?_; (first | exact n1 | exact n2); (first | assumption | exact HT | exact HT.drew); (simp [*]); (simp [*]); rintro e w6 ⟨rfl, k6, t6⟩)
          | (refine step_append_lies _ (by rfl) (.tmp 19) (.tmp 28) _ (by rfl) w2.heap.size 9 i0 _ 1 16 Tryz.underlying132 hi hz0 hz1 hz2 rfl (by omega) u5 k xs (by rfl) ((Com.own_below hown t6).alloc _) ⟨w6.heap.size, 0, none⟩ 1 1 [.string ((((⟨(UriD.enc false nm).toArray⟩ : ByteArray) ++ ⟨#[61]⟩) ++ ⟨(UriD.enc false vl).toArray⟩))] (by rfl) (by rfl) (Com.cells_new _ _ _) (by intro u hu; simp at hu; subst hu; rfl) (by omega) (by unfold maxLen; omega) (by omega) (by have := t6.size; simp; omega) (w6.heap.size + 1) (by simp) ?_; intro gg cap w7 hown7 hg7 hat hlt7))
      have B6 := hb.trans (t6.mono hsz)
      have hown6 := Com.own_below hown t6
      have B7 : Below w2.heap.size w2 w7 := (B6.alloc B6.size _).grown hg7 (by have := B6.size; simp; omega) (fun j hj => by have := (hown6.lt j hj).1; omega)
      clear hown hown6 hg7 c0 c1 HT B6 t6 hat k6 hb
      go_wp2
      go_roundg (ps.length - (k + 1))
      case measure => have := HG.out; omega
      case rel =>
        refine ⟨k + 1, by omega, by go_num, ?_, B7⟩
        rw [HTK.out, ← pt_eq]
        exact hown7
    · have hk2 : k = ss.length := by have := HG.out; have := HSL.out; omega
      have hxs : (ss.take k).map (fun q => Value.string ⟨(pt q).toArray⟩) = (ss.map fun q => (⟨(pt q).toArray⟩ : ByteArray)).map Value.string := by
        rw [hk2, List.take_length, List.map_map]; rfl
      have hxl : (ss.map fun q => (⟨(pt q).toArray⟩ : ByteArray)).length = k := by rw [List.length_map, hk2]
      have hxj : (ss.map fun q => (⟨(pt q).toArray⟩ : ByteArray)).map (·.data.toList) = ss.map pt := by rw [List.map_map]; rfl
      have HQT := Lib.hid (show qt ps = Lib.join (ss.map pt) [38] by unfold qt; rw [HSS.out])
      have hkl : k ≤ 16777216 := by have := HG.out; omega
      rw [hxs] at hown
      have hown2 : wr.ownsRow w2.heap.size 9 1 u5 (ss.map fun q => (⟨(pt q).toArray⟩ : ByteArray)).length ((ss.map fun q => (⟨(pt q).toArray⟩ : ByteArray)).map Value.string) := by rw [hxl]; exact hown
      have hj2 : (Lib.join ((ss.map fun q => (⟨(pt q).toArray⟩ : ByteArray)).map (·.data.toList)) [38]).length ≤ 140737488355328 := by rw [hxj]; exact HJ.out
      have HXJ := Lib.hid hxj
      generalize (ss.map fun q => (⟨(pt q).toArray⟩ : ByteArray)) = xs at *
      clear hown hxs hxj
      have hU := HU2.out.below hb
      obtain ⟨d0, d1, _⟩ := hU.cells
      have hbw : Below w.heap.size w wr := HB2.out.trans (hb.mono HB2.out.size)
      have HBW := Lib.hid hbw
      clear hU hbw hb
      go_wp2_with fail
      refine (UriD.encode p true _ hpl).mono ?_
      rintro e w3 ⟨rfl, hb3⟩
      have hown3 := Com.own_below hown2 hb3
      have HB3 := Lib.hid (HBW.out.trans (hb3.mono HBW.out.size))
      clear hown2 hb3 d0 d1
      go_wp2_with fail
      refine (join ⟨#[38]⟩ hown3 (by omega) hj2).mono ?_
      rintro e w4 ⟨rfl, hb4⟩
      have HB4 := Lib.hid (HB3.out.trans (hb4.mono HB3.out.size))
      clear hown3 hb4 hj2
      go_wp2_with fail
      go_ret2
      refine ⟨?_, HB4.out⟩
      rw [HQT.out, ← HXJ.out]
      rfl
end Go.Proofs.YtidflagmdabfaaaGreatDoor.UriP
