/-
  What stands while ShelfLists plays: the shelf, its drive, the ids that are left in their row; ids and bools that came in.
-/
import Derived.Test.YtecnnlppinhmgaaGreatDoorSd01
import Derived.Test.YtecnnlppinhmgaaGreatDoorSh01
import Derived.Test.YtecnnlppinhmgaaGreatDoorLs01
namespace Go.Proofs.YtecnnlppinhmgaaGreatDoor.LsA
open Go.RowKit Go.Proofs.YtecnnlppinhmgaaGreatDoor Go.Proofs.YtecnnlppinhmgaaGreatDoor.Dw Go.Proofs.YtecnnlppinhmgaaGreatDoor.SfA Go.Proofs.YtecnnlppinhmgaaGreatDoor.SfJ Go.Proofs.YtecnnlppinhmgaaGreatDoor.SfK Go.Proofs.YtecnnlppinhmgaaGreatDoor.IdR Go.Proofs.YtecnnlppinhmgaaGreatDoor.LsP Go.Proofs.YtecnnlppinhmgaaGreatDoor.IdBox

/-- a slice of ids that came in -/
def In3 (w : World) (a : Option Addr) (xs : List (Int × Int × Int)) : Prop := xs = [] ∨ ∃ b o, a = some ⟨b, o, none⟩ ∧ b < w.heap.size ∧ ∀ (j : Nat) t, xs[j]? = some t → w.cell? ⟨b, o + j * 3, none⟩ = some (.int .i64 t.1) ∧ w.cell? ⟨b, o + j * 3 + 1, none⟩ = some (.int .i64 t.2.1) ∧ w.cell? ⟨b, o + j * 3 + 2, none⟩ = some (.int .i64 t.2.2)
/-- a slice of bools that came in -/
def InB (w : World) (a : Option Addr) (gs : List Bool) : Prop := gs = [] ∨ ∃ b o, a = some ⟨b, o, none⟩ ∧ b < w.heap.size ∧ ∀ (j : Nat) t, gs[j]? = some t → w.cell? ⟨b, o + j, none⟩ = some (.bool t)
theorem In3.below {w w' : World} {a : Option Addr} {xs : List (Int × Int × Int)} (h : In3 w a xs) (hb : Below w.heap.size w w') : In3 w' a xs := by
  rcases h with h | ⟨b, o, h1, h2, h3⟩
  · exact .inl h
  · exact .inr ⟨b, o, h1, Nat.lt_of_lt_of_le h2 hb.size, fun j t ht => ⟨(hb.cell (p := ⟨b, _, none⟩) h2).trans (h3 j t ht).1, (hb.cell (p := ⟨b, _, none⟩) h2).trans (h3 j t ht).2.1, (hb.cell (p := ⟨b, _, none⟩) h2).trans (h3 j t ht).2.2⟩⟩
theorem InB.below {w w' : World} {a : Option Addr} {gs : List Bool} (h : InB w a gs) (hb : Below w.heap.size w w') : InB w' a gs := by
  rcases h with h | ⟨b, o, h1, h2, h3⟩
  · exact .inl h
  · exact .inr ⟨b, o, h1, Nat.lt_of_lt_of_le h2 hb.size, fun j t ht => (hb.cell (p := ⟨b, _, none⟩) h2).trans (h3 j t ht)⟩
theorem In3.at {w : World} {a : Option Addr} {xs : List (Int × Int × Int)} (h : In3 w a xs) {j : Nat} {t : Int × Int × Int} (ht : xs[j]? = some t) : ∃ b o, a = some ⟨b, o, none⟩ ∧ b < w.heap.size ∧ w.cell? ⟨b, o + j * 3, none⟩ = some (.int .i64 t.1) ∧ w.cell? ⟨b, o + j * 3 + 1, none⟩ = some (.int .i64 t.2.1) ∧ w.cell? ⟨b, o + j * 3 + 2, none⟩ = some (.int .i64 t.2.2) := by
  rcases h with rfl | ⟨b, o, h1, h2, h3⟩
  · simp at ht
  · exact ⟨b, o, h1, h2, h3 j t ht⟩
theorem InB.at {w : World} {a : Option Addr} {gs : List Bool} (h : InB w a gs) {j : Nat} {t : Bool} (ht : gs[j]? = some t) : ∃ b o, a = some ⟨b, o, none⟩ ∧ b < w.heap.size ∧ w.cell? ⟨b, o + j, none⟩ = some (.bool t) := by
  rcases h with rfl | ⟨b, o, h1, h2, h3⟩
  · simp at ht
  · exact ⟨b, o, h1, h2, h3 j t ht⟩

/-- what stands while ShelfLists plays -/
structure Ls (sp mb : Nat) (w wr : World) (v : Value) (L : List Id3) (M : Dp.Files) : Prop where
  sf : Sf wr sp 3 (mb + 1)
  dr : Drive (mb + 2) (mb + 1) mb wr M false 0
  fs : Fs M L
  nd : L.Nodup
  gd : ∀ i ∈ L, i.good
  ow : OwnI wr w.heap.size v L
  bw : Below w.heap.size w wr
theorem Ls.below {sp mb : Nat} {w wr w' : World} {v : Value} {L : List Id3} {M : Dp.Files} (h : Ls sp mb w wr v L M) (hb : Below wr.heap.size wr w') : Ls sp mb w w' v L M :=
  ⟨h.sf.below hb, h.dr.below hb, h.fs, h.nd, h.gd, h.ow.below hb, h.bw.trans (hb.mono h.bw.size)⟩
theorem Ls.row_ne {sp mb : Nat} {w wr : World} {v : Value} {L : List Id3} {M : Dp.Files} (h : Ls sp mb w wr v L M) : v.ownBlock ≠ some mb := by
  obtain ⟨D, ⟨es, clock, h2, _⟩, _⟩ := h.dr.own
  exact h.ow.ne_obj h2 rfl
/-- behind a call that turns the drive -/
theorem Ls.turn {sp mb : Nat} {w wr w' : World} {v : Value} {L : List Id3} {M M' : Dp.Files} (h : Ls sp mb w wr v L M) (hsp : sp ≠ mb) (hmb : w.heap.size ≤ mb) (_hd : Drive (mb + 2) (mb + 1) mb w' M' false 0) (hk : Keep [mb] wr w') :
    Sf w' sp 3 (mb + 1) ∧ OwnI w' w.heap.size v L ∧ Below w.heap.size w w' :=
  ⟨h.sf.keep hk (by simpa using hsp), h.ow.keep hk h.row_ne, Keep.below h.bw hk (fun i hi => by rw [List.mem_singleton.1 hi]; exact hmb)⟩
/-- an element of the row -/
theorem Ls.at {sp mb : Nat} {w wr : World} {v : Value} {L : List Id3} {M : Dp.Files} (h : Ls sp mb w wr v L M) {j : Nat} {i : Id3} (hi : L[j]? = some i) : ∃ g c, v = .slice (some ⟨g, 0, none⟩) L.length c ∧ L.length ≤ c ∧ g < wr.heap.size ∧ w.heap.size ≤ g ∧ wr.cell? ⟨g, j * 3, none⟩ = some (.int .i64 (i.a : Int)) ∧ wr.cell? ⟨g, j * 3 + 1, none⟩ = some (.int .i64 (i.b : Int)) ∧ wr.cell? ⟨g, j * 3 + 2, none⟩ = some (.int .i64 (i.c : Int)) := by
  rcases h.ow.1.2 with ⟨rfl, h0⟩ | ⟨g, cap, cur, hv, hb, hg, hn, _⟩
  · have : L = [] := List.eq_nil_of_length_eq_zero h0
    subst this
    simp at hi
  · have hc := h.ow.1.cells (g := g) (by rw [hv]; rfl)
    have hlt := (List.getElem?_eq_some_iff.1 hi).1
    have e : ∀ k, ((⟨g, 0, none⟩ : Addr).add k) = ⟨g, k, none⟩ := fun k => by
      unfold Addr.add; split <;> simp_all
    have hget : ∀ (L : List Id3) (j : Nat) i, L[j]? = some i → (icells L)[j * 3]? = some (.int .i64 (i.a : Int)) ∧ (icells L)[j * 3 + 1]? = some (.int .i64 (i.b : Int)) ∧ (icells L)[j * 3 + 2]? = some (.int .i64 (i.c : Int)) := by
      intro L
      induction L with
      | nil => intro j i h; simp at h
      | cons x t ih =>
        intro j i h
        cases j with
        | zero => simp at h; subst h; exact ⟨rfl, rfl, rfl⟩
        | succ j =>
          have := ih j i (by simpa using h)
          have e2 : ∀ k, (icells (x :: t))[k + 3]? = (icells t)[k]? := fun k => by simp [icells]
          rw [show (j + 1) * 3 = j * 3 + 3 by omega, show j * 3 + 3 + 1 = (j * 3 + 1) + 3 by omega, show j * 3 + 3 + 2 = (j * 3 + 2) + 3 by omega, e2, e2, e2]
          exact this
    obtain ⟨g0, g1, g2⟩ := hget L j i hi
    have k0 := hc _ _ g0
    have k1 := hc _ _ g1
    have k2 := hc _ _ g2
    rw [e] at k0 k1 k2
    exact ⟨g, cap, hv, hn, (Array.getElem?_eq_some_iff.1 hg).1, hb, k0, k1, k2⟩
theorem ownI_form {w : World} {base : Nat} {v : Value} {L : List Id3} (h : OwnI w base v L) : ∃ a c, v = .slice a L.length c ∧ L.length ≤ c := by
  rcases h.1.2 with ⟨rfl, h0⟩ | ⟨g, cap, cur, hv, hb, hg, hn, _⟩
  · exact ⟨none, 0, by rw [h0], by omega⟩
  · exact ⟨_, cap, hv, hn⟩
/-- are two ids one? -/
theorem idB_eq (i j : Id3) : idB (i.a : Int) (i.b : Int) (i.c : Int) (j.a : Int) (j.b : Int) (j.c : Int) = decide (i = j) := by
  obtain ⟨a, b, c⟩ := i
  obtain ⟨x, y, z⟩ := j
  unfold idB
  simp only [Id3.mk.injEq]
  rw [Bool.eq_iff_iff]
  simp
  constructor <;> (rintro ⟨h1, h2, h3⟩; exact ⟨by omega, by omega, by omega⟩)
theorem row_take {w : World} {base g n c : Nat} {L : List Id3} (h : OwnI w base (.slice (some ⟨g, 0, none⟩) n c) L) (k : Nat) : ∀ (j : Nat) u, (icells (L.take k))[j]? = some u → w.cell? ((⟨g, 0, none⟩ : Addr).add j) = some u := by
  intro j u hj
  refine h.1.cells (g := g) rfl j u ?_
  have e : icells L = icells (L.take k) ++ icells (L.drop k) := by rw [← icells_app, List.take_append_drop]
  rw [e, List.getElem?_append_left (List.getElem?_eq_some_iff.1 hj).1]
  exact hj
theorem row_drop {w : World} {base g n c : Nat} {L : List Id3} (h : OwnI w base (.slice (some ⟨g, 0, none⟩) n c) L) {k : Nat} (hk : k ≤ L.length) : ∀ (j : Nat) u, (icells (L.drop k))[j]? = some u → w.cell? ((⟨g, k * 3, none⟩ : Addr).add j) = some u := by
  intro j u hj
  have e : icells L = icells (L.take k) ++ icells (L.drop k) := by rw [← icells_app, List.take_append_drop]
  have hl : (icells (L.take k)).length = k * 3 := by rw [icells_len, List.length_take, Nat.min_eq_left hk]
  have := h.1.cells (g := g) rfl (k * 3 + j) u (by rw [e, List.getElem?_append_right (by omega), hl, show k * 3 + j - k * 3 = j by omega]; exact hj)
  have a1 : ((⟨g, 0, none⟩ : Addr).add (k * 3 + j)) = ⟨g, k * 3 + j, none⟩ := by unfold Addr.add; split <;> simp_all
  have a2 : ((⟨g, k * 3, none⟩ : Addr).add j) = ⟨g, k * 3 + j, none⟩ := by unfold Addr.add; split <;> simp_all
  rw [a2]
  rwa [a1] at this
theorem split_at {L : List Id3} {i : Id3} {k : Nat} (h : L[k]? = some i) : L = L.take k ++ i :: L.drop (k + 1) := by
  obtain ⟨hk, he⟩ := List.getElem?_eq_some_iff.1 h
  conv => lhs; rw [← List.take_append_drop k L]
  rw [List.drop_eq_getElem_cons hk, he]
theorem gd_id {i : Id3} (h : i.good) : DiskA.gd i.nm = true := by rw [← nm_bn]; exact SfP.gd_bn (stp_fits h)
theorem ask_in {M : Dp.Files} {L : List Id3} {i : Id3} (h : Fs M L) (hi : i ∈ L) (hg : i.good) : DiskB.askE M i.nm = .ok := by
  unfold DiskB.askE
  rw [if_pos (gd_id hg), h.look hi]
  rfl
theorem ask_out {M : Dp.Files} {L : List Id3} {i : Id3} (h : Fs M L) (hi : i ∉ L) (hg : i.good) : DiskB.askE M i.nm = .gone := by
  unfold DiskB.askE
  rw [if_pos (gd_id hg), h.miss hi]
  rfl
theorem read_in {M : Dp.Files} {L : List Id3} {i : Id3} (h : Fs M L) (hi : i ∈ L) (hg : i.good) : DiskB.rdL M i.nm = frm i := by
  unfold DiskB.rdL DiskB.old
  rw [if_pos (ask_in h hi hg), h.look hi]
  rfl
theorem frm_len (i : Id3) : (frm i).length ≤ 4096 := by have := FrN.frame_len (stp i) [7]; unfold frm; simp at this; omega
theorem frm_get {i : Id3} (h : i.good) : Fp.get (frm i) = .ok (stp i, [7]) := Fp.get_put (stp_fits h) (by decide)
theorem getV_frm {i : Id3} (h : i.good) : SfC.GetV (frm i) i.a i.b i.c 3 = true := by
  unfold SfC.GetV
  rw [frm_get h]
  simp [idB, stp]
theorem Fs.short {M : Dp.Files} {L : List Id3} (h : Fs M L) : ∀ p ∈ M, p.2.bytes.length ≤ 140737488351232 := fun p hp => by
  obtain ⟨j, _, rfl⟩ := h.mem hp
  have := frm_len j
  show (frm j).length ≤ _
  omega
/-- behind a Delete of an id that is left -/
theorem Ls.gone {sp mb : Nat} {w wr w' : World} {v : Value} {A B : List Id3} {i : Id3} {M : Dp.Files} (h : Ls sp mb w wr v (A ++ i :: B) M) (hsp : sp ≠ mb) (hmb : w.heap.size ≤ mb) (hd : Drive (mb + 2) (mb + 1) mb w' (Dp.del M i.nm) false 0) (hk : Keep [mb] wr w') :
    Sf w' sp 3 (mb + 1) ∧ Drive (mb + 2) (mb + 1) mb w' (Dp.del M i.nm) false 0 ∧ Fs (Dp.del M i.nm) (A ++ B) ∧ (A ++ B).Nodup ∧ (∀ x ∈ A ++ B, x.good) ∧ OwnI w' w.heap.size v (A ++ i :: B) ∧ Below w.heap.size w w' := by
  obtain ⟨h1, h2, h3⟩ := h.turn hsp hmb hd hk
  refine ⟨h1, hd, h.fs.del h.nd, nodup_del h.nd, fun x hx => h.gd x ?_, h2, h3⟩
  rcases List.mem_append.1 hx with hx | hx
  · exact List.mem_append_left _ hx
  · exact List.mem_append_right _ (List.mem_cons_of_mem _ hx)
/-- behind a Delete of an id that is not left -/
theorem Ls.stay {sp mb : Nat} {w wr w' : World} {v : Value} {L : List Id3} {M : Dp.Files} (h : Ls sp mb w wr v L M) (hsp : sp ≠ mb) (hmb : w.heap.size ≤ mb) (hd : Drive (mb + 2) (mb + 1) mb w' M false 0) (hk : Keep [mb] wr w') : Ls sp mb w w' v L M := by
  obtain ⟨h1, h2, h3⟩ := h.turn hsp hmb hd hk
  exact ⟨h1, hd, h.fs, h.nd, h.gd, h2, h3⟩
/-- behind a Put of an id that is not left -/
theorem Ls.come {sp mb : Nat} {w wr w' : World} {v : Value} {L : List Id3} {i : Id3} {M : Dp.Files} (h : Ls sp mb w wr v L M) (hsp : sp ≠ mb) (hmb : w.heap.size ≤ mb) (hi : i ∉ L) (hg : i.good) (hd : Drive (mb + 2) (mb + 1) mb w' (Dp.put M i.nm ⟨frm i, frm i, true⟩) false 0) (hk : Keep [mb] wr w') :
    Sf w' sp 3 (mb + 1) ∧ Drive (mb + 2) (mb + 1) mb w' (Dp.put M i.nm ⟨frm i, frm i, true⟩) false 0 ∧ Fs (Dp.put M i.nm ⟨frm i, frm i, true⟩) (L ++ [i]) ∧ (L ++ [i]).Nodup ∧ (∀ x ∈ L ++ [i], x.good) ∧ OwnI w' w.heap.size v L ∧ Below w.heap.size w w' := by
  obtain ⟨h1, h2, h3⟩ := h.turn hsp hmb hd hk
  refine ⟨h1, hd, h.fs.put hi, ?_, fun x hx => ?_, h2, h3⟩
  · refine List.nodup_append.2 ⟨h.nd, by simp, fun a ha b hb => ?_⟩
    rw [List.mem_singleton.1 hb]
    rintro rfl
    exact hi ha
  · rcases List.mem_append.1 hx with hx | hx
    · exact h.gd x hx
    · rw [List.mem_singleton.1 hx]; exact hg
theorem OwnI_grown {w w' : World} {base : Nat} {v : Value} {L : List Id3} {row : Option Nat} (h : OwnI w base v L) (hg : w.grownBy w' row) (hne : v.ownBlock = none ∨ v.ownBlock ≠ row) : OwnI w' base v L :=
  ⟨h.1.kept hg hne, fun g e => (h.2 g e).grown hg (by rcases hne with hn | hn; rw [hn] at e; cases e; rw [e] at hn; exact hn)⟩
/-- behind a Delete of the id at place k of the row -/
theorem Ls.gone_at {sp mb : Nat} {w wr w' : World} {v : Value} {L : List Id3} {i : Id3} {k : Nat} {M : Dp.Files} (h : Ls sp mb w wr v L M) (hat : L[k]? = some i) (hsp : sp ≠ mb) (hmb : w.heap.size ≤ mb) (hd : Drive (mb + 2) (mb + 1) mb w' (Dp.del M i.nm) false 0) (hk : Keep [mb] wr w') :
    Sf w' sp 3 (mb + 1) ∧ Fs (Dp.del M i.nm) (L.take k ++ L.drop (k + 1)) ∧ (L.take k ++ L.drop (k + 1)).Nodup ∧ (∀ x ∈ L.take k ++ L.drop (k + 1), x.good) ∧ OwnI w' w.heap.size v L ∧ Below w.heap.size w w' := by
  have e := split_at hat
  have h2 : Ls sp mb w wr v (L.take k ++ i :: L.drop (k + 1)) M := by rw [← e]; exact h
  obtain ⟨h3, -, h4, h5, h6, h7, h8⟩ := h2.gone hsp hmb hd hk
  rw [← e] at h7
  exact ⟨h3, h4, h5, h6, h7, h8⟩
/-- behind an append onto another row, which is the ids' row from then on -/
theorem onto {sp mb : Nat} {w wr w' : World} {v : Value} {L : List Id3} {M : Dp.Files} (hs : Sf wr sp 3 (mb + 1)) (hd : Drive (mb + 2) (mb + 1) mb wr M false 0) (hb : Below w.heap.size w wr) (ho : OwnI wr w.heap.size v L) (hg : wr.grownBy w' v.ownBlock) :
    Sf w' sp 3 (mb + 1) ∧ Drive (mb + 2) (mb + 1) mb w' M false 0 ∧ Below w.heap.size w w' :=
  ⟨shelf_row hs ho hg, drive_row hd ho hg, below_row hb (Nat.le_refl _) hb.size ho hg⟩
theorem icells_at : ∀ (L : List Id3) (j : Nat) i, L[j]? = some i → (icells L)[j * 3]? = some (.int .i64 (i.a : Int)) ∧ (icells L)[j * 3 + 1]? = some (.int .i64 (i.b : Int)) ∧ (icells L)[j * 3 + 2]? = some (.int .i64 (i.c : Int)) := by
  intro L
  induction L with
  | nil => intro j i h; simp at h
  | cons x t ih =>
    intro j i h
    cases j with
    | zero => simp at h; subst h; exact ⟨rfl, rfl, rfl⟩
    | succ j =>
      have := ih j i (by simpa using h)
      have e2 : ∀ k, (icells (x :: t))[k + 3]? = (icells t)[k]? := fun k => by simp [icells]
      rw [show (j + 1) * 3 = j * 3 + 3 by omega, show j * 3 + 3 + 1 = (j * 3 + 1) + 3 by omega, show j * 3 + 3 + 2 = (j * 3 + 2) + 3 by omega, e2, e2, e2]
      exact this
theorem idl_form {w : World} {v : Value} {S : List Id3} (h : Idl w v S) : ∃ a c, v = .slice a S.length c := by
  rcases h with ⟨rfl, c, rfl⟩ | ⟨b, c, rfl, _, _⟩
  · exact ⟨_, _, rfl⟩
  · exact ⟨_, _, rfl⟩
theorem idl_at {w : World} {v : Value} {S : List Id3} (h : Idl w v S) {j : Nat} {i : Id3} (hi : S[j]? = some i) : ∃ g c, v = .slice (some ⟨g, 0, none⟩) S.length c ∧ g < w.heap.size ∧ w.cell? ⟨g, j * 3, none⟩ = some (.int .i64 (i.a : Int)) ∧ w.cell? ⟨g, j * 3 + 1, none⟩ = some (.int .i64 (i.b : Int)) ∧ w.cell? ⟨g, j * 3 + 2, none⟩ = some (.int .i64 (i.c : Int)) := by
  rcases h with ⟨rfl, _⟩ | ⟨b, c, h1, h2, h3⟩
  · simp at hi
  · obtain ⟨k0, k1, k2⟩ := icells_at S j i hi
    exact ⟨b, c, h1, h2, h3 _ _ k0, h3 _ _ k1, h3 _ _ k2⟩
theorem idl_below {w w' : World} {v : Value} {S : List Id3} (h : Idl w v S) (hb : Below w.heap.size w w') : Idl w' v S := by
  rcases h with h | ⟨b, c, h1, h2, h3⟩
  · exact .inl h
  · exact .inr ⟨b, c, h1, Nat.lt_of_lt_of_le h2 hb.size, fun j u hj => (hb.cell (p := ⟨b, j, none⟩) h2).trans (h3 j u hj)⟩
theorem skip {P : Program} {ops : Array Oper} {Q : Exit → Act → World → Prop} {md : Region.Mode} {S : World → Prop} {i : Nat} {oi : Oper} {fuel : Nat} {listed : Array Bool} {a : Act} {w : World} (hi : ops[i]? = some oi)
    (hs : Region.noSelect ops = true) (hf : Region.free md ops listed i = true) (hr : (Region.ready md ops listed).contains i = true)
    (hQ : ∀ c a w, Q (.panic c) (a.put oi.dst undef) w → Q (.panic c) a w) (hS : S w) (hw : Region.wanted oi (yielded ops a.tmps) = false)
    (h : wpAnyH P md ops Q S fuel (listed.setIfInBounds i true) (a.put oi.dst undef) w) : wpAnyH P md ops Q S (fuel + 1) listed a w :=
  wpAnyH_take hi hs hf hr hQ (.inr ⟨hw, rfl⟩) hS h
/-- what stands behind List -/
structure S3 (sp mb : Nat) (w wr : World) (v : Value) (L : List Id3) (M : Dp.Files) (vS : Value) (S : List Id3) : Prop where
  ls : Ls sp mb w wr v L M
  li : Idl wr vS S
theorem S3.below {sp mb : Nat} {w wr w' : World} {v vS : Value} {L S : List Id3} {M : Dp.Files} (h : S3 sp mb w wr v L M vS S) (hb : Below wr.heap.size wr w') : S3 sp mb w w' v L M vS S :=
  ⟨h.ls.below hb, idl_below h.li hb⟩
end Go.Proofs.YtecnnlppinhmgaaGreatDoor.LsA
