/-
  A shelf's files where all are called as blobs, plain: what Put and Delete make of them. A row of ids that a call owns: all its block's cells are numbers, so no drive's bytes lie in it. The walk of package shelf's Delete at a good id. The walk of package shelf's Has.
-/
import Derived.Test.YtecnnlppinhmgaaGreatDoorSd01
import Derived.Test.YtecnnlppinhmgaaGreatDoorSe03
import Derived.Test.YtecnnlppinhmgaaGreatDoorSh03
import Derived.Test.YtecnnlppinhmgaaGreatDoorSh04
import Derived.Laws.Append
namespace Go.Proofs.YtecnnlppinhmgaaGreatDoor.LsP
open Go.Proofs.YtecnnlppinhmgaaGreatDoor Go.Proofs.YtecnnlppinhmgaaGreatDoor.DiskB Go.Proofs.YtecnnlppinhmgaaGreatDoor.SfA Go.Proofs.YtecnnlppinhmgaaGreatDoor.SfB Go.Proofs.YtecnnlppinhmgaaGreatDoor.SfP Go.Proofs.YtecnnlppinhmgaaGreatDoor.SfJ

theorem del_put (M : Dp.Files) (n : List UInt8) (f : Dp.File) : Dp.del (Dp.put M n f) n = Dp.del M n := by
  induction M with
  | nil => simp [Dp.put, Dp.del]
  | cons p r ih =>
    by_cases h1 : n < p.1
    · simp [Dp.put, h1, Dp.del]
    · by_cases h2 : p.1 = n
      · simp [Dp.put, h2, List.lt_irrefl, Dp.del]
      · simp [Dp.put, h1, h2, Dp.del, ih]
/-- Put where no file lies aside -/
theorem put_plain (M : Dp.Files) (s : Fp.Stamp) (f : List UInt8) (h : s.fits) (hl : M.length < 512) (hM : ∀ p ∈ M, p.1 ≠ tn s) :
    putE M false s f = .ok ∧ putM M false s f = Dp.put M (bn s) ⟨f, f, true⟩ := by
  have g1 := gd_tn h
  have g2 := gd_bn h
  have k0 : Dp.look M (tn s) = none := Dp.look_none hM
  have h1 : wrE M false (tn s) = .ok := by
    unfold wrE
    rw [if_pos g1, if_neg]
    rintro (h | ⟨_, h⟩)
    · cases h
    · omega
  have h2 : wrM M false (tn s) f = Dp.put M (tn s) ⟨f, [], false⟩ := by
    unfold wrM old
    rw [if_pos h1, k0]
    rfl
  have a1 : askE (Dp.put M (tn s) ⟨f, [], false⟩) (tn s) = .ok := by
    unfold askE
    rw [if_pos g1, Dp.look_put_same]
    rfl
  have h3 : syE (Dp.put M (tn s) ⟨f, [], false⟩) false (tn s) = .ok := by
    unfold syE
    rw [if_pos a1]
    rfl
  have h4 : syM (Dp.put M (tn s) ⟨f, [], false⟩) false (tn s) = Dp.put (Dp.put M (tn s) ⟨f, [], false⟩) (tn s) ⟨f, f, true⟩ := by
    unfold syM old
    rw [if_pos h3, Dp.look_put_same]
    rfl
  have a2 : askE (Dp.put (Dp.put M (tn s) ⟨f, [], false⟩) (tn s) ⟨f, f, true⟩) (tn s) = .ok := by
    unfold askE
    rw [if_pos g1, Dp.look_put_same]
    rfl
  have h5 : reE (Dp.put (Dp.put M (tn s) ⟨f, [], false⟩) (tn s) ⟨f, f, true⟩) (tn s) (bn s) = .ok := by
    unfold reE
    rw [if_pos ⟨g1, g2⟩, a2]
  have h6 : reM (Dp.put (Dp.put M (tn s) ⟨f, [], false⟩) (tn s) ⟨f, f, true⟩) (tn s) (bn s) = Dp.put M (bn s) ⟨f, f, true⟩ := by
    unfold reM old
    rw [if_pos h5, Dp.look_put_same, del_put, del_put, Dp.del_none hM]
    rfl
  constructor
  · unfold putE
    rw [if_pos h1, h2, if_pos h3, h4, h5]
  · unfold putM
    rw [if_pos h1, h2, if_pos h3, h4, h6]

/-- an id's stamp, frame and file -/
def stp (i : Id3) : Fp.Stamp := ⟨i.a, i.b, i.c, 3, 1⟩
def frm (i : Id3) : List UInt8 := Fp.put (stp i) [7]
def ent (i : Id3) : List UInt8 × Dp.File := (i.nm, ⟨frm i, frm i, true⟩)
theorem good_nums {i : Id3} (h : i.good) : i.a < 16 ∧ i.b ≤ 1099511627776 ∧ i.c ≤ 1099511627776 := by
  have hgb : 0 ≤ (i.a : Int) ∧ (i.a : Int) < 16 ∧ 0 ≤ (i.b : Int) ∧ (i.b : Int) ≤ 1099511627776 ∧ 0 ≤ (i.c : Int) ∧ (i.c : Int) ≤ 1099511627776 := by unfold Id3.good FrK.goodB at h; exact of_decide_eq_true h
  omega
theorem stp_fits {i : Id3} (h : i.good) : (stp i).fits := by
  obtain ⟨h1, h2, h3⟩ := good_nums h
  exact ⟨h1, h2, h3, by show 3 < 16; decide, by show 1 ≤ 1024; decide⟩
theorem nm_bn (i : Id3) : bn (stp i) = i.nm := rfl
theorem nm_ne (i : Id3) (s : Fp.Stamp) : i.nm ≠ tn s := fun h => by unfold tn Id3.nm nm at h; rw [List.cons.injEq] at h; exact absurd h.1 (by decide)
theorem nm_inj {i j : Id3} (h : i.nm = j.nm) : i = j := by
  have h2 := congrArg (fun l => Lib.split l [45]) h
  simp only [Id3.nm, SfI.split_nm, List.cons.injEq, and_true, true_and] at h2
  obtain ⟨e1, e2, e3⟩ := h2
  have v : ∀ u w : Nat, Lib.decDigits u = Lib.decDigits w → u = w := fun u w e => by
    rw [← (Ip.val_dec u u (Nat.le_refl _)).1, ← (Ip.val_dec w w (Nat.le_refl _)).1, e]
  cases i; cases j
  simp only [Id3.mk.injEq]
  exact ⟨v _ _ e1, v _ _ e2, v _ _ e3⟩

theorem put_map (i : Id3) : ∀ (ks : List Id3), i ∉ ks → ∃ ks' : List Id3, Dp.put (ks.map ent) i.nm ⟨frm i, frm i, true⟩ = ks'.map ent ∧ ks'.Perm (i :: ks)
  | [], _ => ⟨[i], rfl, List.Perm.refl _⟩
  | k :: r, h => by
    have hk : k.nm ≠ i.nm := fun e => h (by rw [nm_inj e]; exact List.mem_cons_self)
    by_cases h1 : i.nm < k.nm
    · exact ⟨i :: k :: r, by simp [Dp.put, ent, h1], List.Perm.refl _⟩
    · obtain ⟨ks', e, hp⟩ := put_map i r fun hm => h (List.mem_cons_of_mem _ hm)
      refine ⟨k :: ks', ?_, (hp.cons k).trans (List.Perm.swap _ _ _)⟩
      rw [List.map_cons, List.map_cons, ← e]
      simp [Dp.put, ent, h1, hk]
theorem put_same (i : Id3) : ∀ (ks : List Id3), Dp.Up (ks.map ent) → i ∈ ks → Dp.put (ks.map ent) i.nm ⟨frm i, frm i, true⟩ = ks.map ent
  | k :: r, hu, h => by
    obtain ⟨h1, h2⟩ := List.pairwise_cons.1 hu
    rcases List.mem_cons.1 h with rfl | hr
    · simp [Dp.put, ent, List.lt_irrefl]
    · have hlt : k.nm < i.nm := h1 (ent i) (List.mem_map_of_mem hr)
      have h3 : ¬ i.nm < k.nm := fun h3 => List.lt_irrefl _ (List.lt_trans hlt h3)
      have h4 : k.nm ≠ i.nm := fun e => by rw [e] at hlt; exact List.lt_irrefl _ hlt
      have ih := put_same i r h2 hr
      simp only [List.map_cons, Dp.put, ent, h3, if_false, h4]
      rw [show List.map ent r = r.map ent from rfl] at ih
      exact congrArg _ ih
theorem del_map (i : Id3) : ∀ (ks : List Id3), Dp.del (ks.map ent) i.nm = (ks.filter (· ≠ i)).map ent
  | [] => rfl
  | k :: r => by
    have ih := del_map i r
    by_cases h : k = i
    · subst h
      simp [Dp.del, ent]
      simpa [ent] using ih
    · have hk : k.nm ≠ i.nm := fun e => h (nm_inj e)
      simp [Dp.del, ent, h, hk]
      simpa [ent] using ih

/-- the files of the ids of L, and no others -/
structure Fs (M : Dp.Files) (L : List Id3) : Prop where
  up : Dp.Up M
  ks : ∃ ks : List Id3, M = ks.map ent ∧ ks.Perm L
theorem Fs.nil : Fs [] [] := ⟨List.Pairwise.nil, [], rfl, List.Perm.refl _⟩
theorem Fs.len {M : Dp.Files} {L : List Id3} (h : Fs M L) : M.length = L.length := by
  obtain ⟨ks, rfl, hp⟩ := h.ks
  rw [List.length_map]
  exact hp.length_eq
theorem Fs.mem {M : Dp.Files} {L : List Id3} (h : Fs M L) {p : List UInt8 × Dp.File} (hp : p ∈ M) : ∃ i ∈ L, p = ent i := by
  obtain ⟨ks, rfl, hk⟩ := h.ks
  obtain ⟨i, hi, rfl⟩ := List.mem_map.1 hp
  exact ⟨i, hk.mem_iff.1 hi, rfl⟩
theorem Fs.look {M : Dp.Files} {L : List Id3} (h : Fs M L) {i : Id3} (hi : i ∈ L) : Dp.look M i.nm = some ⟨frm i, frm i, true⟩ := by
  obtain ⟨ks, e, hk⟩ := h.ks
  exact Dp.look_of_mem h.up (by rw [e]; exact List.mem_map.2 ⟨i, hk.mem_iff.2 hi, rfl⟩)
theorem Fs.miss {M : Dp.Files} {L : List Id3} (h : Fs M L) {i : Id3} (hi : i ∉ L) : Dp.look M i.nm = none :=
  Dp.look_none fun p hp e => by
    obtain ⟨j, hj, rfl⟩ := h.mem hp
    exact hi (nm_inj e ▸ hj)
theorem Fs.aside {M : Dp.Files} {L : List Id3} (h : Fs M L) (s : Fp.Stamp) : ∀ p ∈ M, p.1 ≠ tn s := fun p hp => by
  obtain ⟨j, _, rfl⟩ := h.mem hp
  exact nm_ne j s
theorem Fs.put {M : Dp.Files} {L : List Id3} (h : Fs M L) {i : Id3} (hi : i ∉ L) : Fs (Dp.put M i.nm ⟨frm i, frm i, true⟩) (L ++ [i]) := by
  refine ⟨Dp.up_put h.up _ _, ?_⟩
  obtain ⟨ks, rfl, hk⟩ := h.ks
  obtain ⟨ks', e, hp⟩ := put_map i ks fun hm => hi (hk.mem_iff.1 hm)
  exact ⟨ks', e, hp.trans ((hk.cons i).trans (List.perm_append_singleton i L).symm)⟩
theorem Fs.again {M : Dp.Files} {L : List Id3} (h : Fs M L) {i : Id3} (hi : i ∈ L) : Dp.put M i.nm ⟨frm i, frm i, true⟩ = M := by
  have hu := h.up
  obtain ⟨ks, rfl, hk⟩ := h.ks
  exact put_same i ks hu (hk.mem_iff.2 hi)
theorem Fs.del {M : Dp.Files} {A B : List Id3} {i : Id3} (h : Fs M (A ++ i :: B)) (hn : (A ++ i :: B).Nodup) : Fs (Dp.del M i.nm) (A ++ B) := by
  refine ⟨Dp.up_del h.up _, ?_⟩
  obtain ⟨ks, rfl, hk⟩ := h.ks
  refine ⟨ks.filter (· ≠ i), del_map i ks, (hk.filter _).trans ?_⟩
  have hd := List.nodup_append.1 hn
  have h2 := List.nodup_cons.1 hd.2.1
  have fA : A.filter (fun x => decide (x ≠ i)) = A := List.filter_eq_self.2 fun x hx => by
    simp only [decide_eq_true_eq]
    exact hd.2.2 x hx i List.mem_cons_self
  have fB : B.filter (fun x => decide (x ≠ i)) = B := List.filter_eq_self.2 fun x hx => by
    simp only [decide_eq_true_eq]
    rintro rfl
    exact h2.1 hx
  rw [List.filter_append, List.filter_cons_of_neg (by simp), fA, fB]
theorem nodup_del {A B : List Id3} {i : Id3} (hn : (A ++ i :: B).Nodup) : (A ++ B).Nodup :=
  hn.sublist ((List.Sublist.refl A).append (List.sublist_cons_self i B))
theorem Fs.blobs {M : Dp.Files} {L : List Id3} (h : Fs M L) (hg : ∀ i ∈ L, i.good) : ∃ ks, Blobs M ks ∧ ks.Perm L := by
  obtain ⟨ks, rfl, hk⟩ := h.ks
  refine ⟨ks, ⟨?_, fun i hi => hg i (hk.mem_iff.1 hi)⟩, hk⟩
  unfold Dp.names
  rw [List.map_map]
  rfl
end Go.Proofs.YtecnnlppinhmgaaGreatDoor.LsP
namespace Go.Proofs.YtecnnlppinhmgaaGreatDoor.IdR
open Go.RowKit Go.Proofs.YtecnnlppinhmgaaGreatDoor Go.Proofs.YtecnnlppinhmgaaGreatDoor.Dw Go.Proofs.YtecnnlppinhmgaaGreatDoor.SfA Go.Proofs.YtecnnlppinhmgaaGreatDoor.SfJ Go.Proofs.YtecnnlppinhmgaaGreatDoor.SfK

/-- a block of ids, whose cells are numbers, the spare ones too -/
def Nums (w : World) (g : Nat) : Prop := ∃ cur, w.heap[g]? = some (.cells cur 23 (0, 0)) ∧ ∀ x ∈ cur.toList, ∃ n, x = Value.int .i64 n
def OwnI (w : World) (base : Nat) (v : Value) (L : List Id3) : Prop := w.ownsRow base 23 3 v L.length (icells L) ∧ ∀ g, v.ownBlock = some g → Nums w g
theorem icells_len (ids : List Id3) : (icells ids).length = ids.length * 3 := by
  induction ids with
  | nil => rfl
  | cons i t ih => simp [icells] at ih ⊢; omega
theorem icells_num {ids : List Id3} {x : Value} (h : x ∈ icells ids) : ∃ n, x = Value.int .i64 n := by
  unfold icells at h
  obtain ⟨i, _, hx⟩ := List.mem_flatMap.1 h
  simp only [List.mem_cons, List.not_mem_nil, or_false] at hx
  rcases hx with rfl | rfl | rfl <;> exact ⟨_, rfl⟩
theorem icells_app (a b : List Id3) : icells (a ++ b) = icells a ++ icells b := by simp [icells]
theorem icells_one {ids : List Id3} : ∀ u ∈ icells ids, u.oneCell' = true := fun u hu => by
  obtain ⟨n, rfl⟩ := icells_num hu
  rfl
theorem Nums.grown {w w' : World} {g : Nat} {row : Option Nat} (h : Nums w g) (hg : w.grownBy w' row) (hne : some g ≠ row) : Nums w' g := by
  obtain ⟨cur, h1, h2⟩ := h
  exact ⟨cur, (hg.block g (Array.getElem?_eq_some_iff.1 h1).1 hne).trans h1, h2⟩
theorem OwnI.nil (w : World) (base : Nat) : OwnI w base (.slice none 0 0) [] := ⟨⟨rfl, .inl ⟨rfl, rfl⟩⟩, fun g h => by cases h⟩
theorem OwnI.keep {w w' : World} {base k : Nat} {v : Value} {L : List Id3} (h : OwnI w base v L) (hk : Keep [k] w w') (hv : v.ownBlock ≠ some k) : OwnI w' base v L := by
  have hb : ∀ g, v.ownBlock = some g → w'.heap[g]? = w.heap[g]? := fun g hg => hk.block g (h.1.lt g hg).2 (by
    intro hm
    rw [List.mem_singleton.1 hm] at hg
    exact hv hg)
  refine ⟨⟨h.1.1, ?_⟩, fun g hg => ?_⟩
  · rcases h.1.2 with hn | ⟨g, cap, cur, rfl, h1, h2, h3⟩
    · exact .inl hn
    · exact .inr ⟨g, cap, cur, rfl, h1, (hb g rfl).trans h2, h3⟩
  · obtain ⟨cur, h1, h2⟩ := h.2 g hg
    exact ⟨cur, (hb g hg).trans h1, h2⟩
theorem OwnI.below {w w' : World} {base : Nat} {v : Value} {L : List Id3} (h : OwnI w base v L) (hk : Below w.heap.size w w') : OwnI w' base v L := by
  have hb : ∀ g, v.ownBlock = some g → w'.heap[g]? = w.heap[g]? := fun g hg => hk.block g (h.1.lt g hg).2
  refine ⟨⟨h.1.1, ?_⟩, fun g hg => ?_⟩
  · rcases h.1.2 with hn | ⟨g, cap, cur, rfl, h1, h2, h3⟩
    · exact .inl hn
    · exact .inr ⟨g, cap, cur, rfl, h1, (hb g rfl).trans h2, h3⟩
  · obtain ⟨cur, h1, h2⟩ := h.2 g hg
    exact ⟨cur, (hb g hg).trans h1, h2⟩
theorem OwnI.ne_obj {w : World} {base D : Nat} {v : Value} {L : List Id3} {o : Obj} (h : OwnI w base v L) (hD : w.heap[D]? = some o) (ho : o.isCells = false) : v.ownBlock ≠ some D := own_ne h.1 hD ho
theorem Nums.ne {w : World} {g D : Nat} {cs : Array Value} {t : TypeId} {fr : Nat × Nat} (h : Nums w g) (hD : w.heap[D]? = some (.cells cs t fr)) {x : Value} (hx : x ∈ cs.toList) (hn : ∀ n, x ≠ .int .i64 n) : g ≠ D := by
  rintro rfl
  obtain ⟨cur, h1, h2⟩ := h
  rw [h1] at hD
  cases hD
  obtain ⟨n, e⟩ := h2 x hx
  exact hn n e
theorem Nums.cell {w : World} {g o : Nat} {u : Value} (h : Nums w g) (hc : w.cell? ⟨g, o, none⟩ = some u) : ∃ n, u = .int .i64 n := by
  obtain ⟨cur, h1, h2⟩ := h
  rw [Lib.cell_of_heap h1] at hc
  exact h2 u (Array.mem_toList_iff.2 (Array.mem_of_getElem? hc))
theorem bs_ids {lo g : Nat} {w w' : World} {a : Option Addr} {l : List UInt8} {c : Nat} (h : Dw.Bs lo w a l c) (hn : Nums w g) (hg : w.grownBy w' (some g)) : Dw.Bs lo w' a l c := by
  refine ⟨h.1, h.2.1, ?_⟩
  rcases h.2.2 with h0 | ⟨b, o, h1, h2, h3, h4⟩
  · exact .inl h0
  · cases l with
    | nil => exact .inl rfl
    | cons x l =>
      have hc := h4 0 x rfl
      have hne : g ≠ b := by
        rintro rfl
        obtain ⟨n, e⟩ := hn.cell hc
        cases e
      exact .inr ⟨b, o, h1, h2, Nat.lt_of_lt_of_le h3 hg.size, fun j y hy => hg.cell (h4 j y hy) (fun e => hne (by cases e; rfl))⟩
/-- what is written into a block of numbers turns no drive -/
theorem drive_ids {lo d mb g : Nat} {w w' : World} {M : Dp.Files} {full : Bool} {lost : Int} (h : Dw.Drive lo d mb w M full lost) (hn : Nums w g) (hg : w.grownBy w' (some g)) : Dw.Drive lo d mb w' M full lost := by
  obtain ⟨D, ho, ht⟩ := h.own
  have hd : g ≠ d := hn.ne h.cells (x := .bool full) (by simp) (fun n e => by cases e)
  have hm : g ≠ mb := by
    rintro rfl
    obtain ⟨cur, h1, _⟩ := hn
    obtain ⟨es, clock, h2, _⟩ := ho
    rw [h1] at h2; cases h2
  refine ⟨h.dtop, h.mtop, h.dlo, h.mlo, h.dmb, Nat.le_trans h.low hg.size, (hg.block d h.names_lt.1 (fun e => hd (by cases e; rfl))).trans h.cells, D, Dw.ownsMap_block ho (hg.block mb h.names_lt.2 (fun e => hm (by cases e; rfl))), ht.mono fun v f hf => ?_⟩
  obtain ⟨a1, c1, a2, c2, e, h1, h2⟩ := hf
  exact ⟨a1, c1, a2, c2, e, bs_ids h1 hn hg, bs_ids h2 hn hg⟩
theorem drive_row {lo d mb base : Nat} {w w' : World} {M : Dp.Files} {full : Bool} {lost : Int} {v : Value} {L : List Id3} (h : Dw.Drive lo d mb w M full lost) (ho : OwnI w base v L) (hg : w.grownBy w' v.ownBlock) : Dw.Drive lo d mb w' M full lost := by
  cases e : v.ownBlock with
  | none =>
    rw [e] at hg
    exact h.below ⟨hg.os, hg.tape, hg.output, hg.size, fun k hk => hg.block k hk (by simp)⟩
  | some g =>
    rw [e] at hg
    exact drive_ids h (ho.2 g e) hg
theorem shelf_row {sb d base : Nat} {node : Int} {w w' : World} {v : Value} {L : List Id3} (h : Sf w sb node d) (ho : OwnI w base v L) (hg : w.grownBy w' v.ownBlock) : Sf w' sb node d := by
  refine (hg.block sb (Array.getElem?_eq_some_iff.1 h).1 fun e => ?_).trans h
  exact (ho.2 sb e.symm).ne h (x := .pointer (some ⟨d, 0, none⟩)) (by simp) (fun n e => by cases e) rfl
theorem below_row {n base : Nat} {w0 w w' : World} {v : Value} {L : List Id3} (h : Below n w0 w) (hb : n ≤ base) (hz : n ≤ w.heap.size) (ho : OwnI w base v L) (hg : w.grownBy w' v.ownBlock) : Below n w0 w' :=
  h.grown hg hz fun k hk => Nat.le_trans hb (ho.1.lt k hk).1

/-- append of ids onto ids -/
theorem run_append_ids (t ty : TypeId) (ht : Tryz.prog.underlying t = some (.slice 23)) (base : Nat) (v : Value) (L N : List Id3) (w : World) (hown : OwnI w base v L)
    (a : Addr) (c : Nat) (hnews : ∀ (j : Nat) u, (icells N)[j]? = some u → w.cell? (a.add j) = some u) (h63 : L.length + N.length ≤ 4294967296) (hbase : base ≤ w.heap.size) :
    ∃ v' w', (Builtin.append_ #[t, t] ty #[v, .slice (some a) N.length c]).run Tryz.prog w = .ok v' w' ∧ OwnI w' base v' (L ++ N) ∧ w.grownBy w' v.ownBlock := by
  obtain ⟨i, hi, hz, hs, hby⟩ := HtW.info_parts infoId
  have hm : L.length + N.length ≤ maxLen := by unfold maxLen; omega
  obtain ⟨v', w', hr, h2, h3, _⟩ := run_append_own (P := Tryz.prog) w base t ty 23 i (.agg #[.int .i64 0, .int .i64 0, .int .i64 0]) 3 24 ht hi hz hs hby rfl (by decide) v L.length (icells L) hown.1 a N.length c (icells N) (icells_len N) hnews icells_one hm (by omega) hbase
  rw [← icells_app, ← List.length_append] at h2
  refine ⟨v', w', hr, ⟨h2, fun g hg => ?_⟩, h3⟩
  have zc : ∀ k, ∀ x ∈ (Builtin.zeroCells (Value.agg #[.int .i64 0, .int .i64 0, .int .i64 0]).cells k).toList, ∃ n, x = Value.int .i64 n := by
    intro k x hx
    have h := Array.mem_toList_iff.1 hx
    simp [Builtin.zeroCells, Value.cells] at h
    grind
  rcases hown.1.2 with ⟨hv, hL⟩ | ⟨g0, cap, cur, hv, hb, hg0, hnc, hcm, hcs, htk⟩
  · subst hv
    have hL0 : L = [] := List.eq_nil_of_length_eq_zero hL
    subst hL0
    by_cases h0 : N.length = 0
    · exfalso
      rcases h2.2 with ⟨hv', _⟩ | ⟨g1, cap1, cur1, hv1, _⟩
      · rw [hv'] at hg; cases hg
      · have hN : N = [] := List.eq_nil_of_length_eq_zero h0
        subst hN
        have hr2 : (Builtin.append_ #[t, t] ty #[Value.slice none 0 0, .slice (some a) 0 c]).run Tryz.prog w = .ok (.slice none 0 0) w := by
          simp [Builtin.append_, run_underlying ht, sizeOf, typeInfo, hi, Builtin.lenOf, Builtin.firstCells, loadCells, loadCellsFrom]
        rw [List.length_nil] at hr
        rw [hr2] at hr
        cases hr
        cases hv1
    · have hr2 := run_append_nil (P := Tryz.prog) w t ty 23 i _ ht hi hz a N.length c (icells N) (by rw [hs]; exact icells_len N) hnews (by omega) (by omega) (by rw [hby]; omega)
      rw [hr2] at hr
      cases hr
      obtain rfl : w.heap.size = g := by simpa [Value.ownBlock] using hg
      refine ⟨_, heap_alloc_new w.drew _, fun x hx => ?_⟩
      rw [Array.toList_append, List.mem_append] at hx
      rcases hx with hx | hx
      · exact icells_num (by simpa using hx)
      · exact zc _ x hx
  · subst hv
    obtain ⟨cur2, k1, k2⟩ := hown.2 g0 rfl
    rw [hg0] at k1
    cases k1
    by_cases hroom : L.length + N.length ≤ cap
    · have hfit : L.length * i.size + (icells N).length ≤ cur.size := by rw [hs, icells_len, hcs]; omega
      have hr2 := run_append_room (P := Tryz.prog) w t ty 23 i ht hi g0 L.length cap cur hg0 a N.length c (icells N) (by rw [hs]; exact icells_len N) hnews icells_one hroom hfit
      rw [hr2] at hr
      cases hr
      obtain rfl : g0 = g := by simpa [Value.ownBlock] using hg
      refine ⟨_, setRow_heap w g0 cur _ 23 _ hg0, fun x hx => ?_⟩
      simp only [List.mem_append] at hx
      rcases hx with (hx | hx) | hx
      · exact k2 x (List.mem_of_mem_take hx)
      · exact icells_num hx
      · exact k2 x (List.mem_of_mem_drop hx)
    · have holds := hown.1.cells (g := g0) rfl
      have hr2 := run_append_grow (P := Tryz.prog) w t ty 23 i _ ht hi hz ⟨g0, 0, none⟩ L.length cap (icells L) (by rw [hs]; exact icells_len L) holds a N.length c (icells N) (by rw [hs]; exact icells_len N) hnews (by omega) (by omega) (growslice_fits (by omega) (by rw [hby]; omega))
      rw [hr2] at hr
      cases hr
      obtain rfl : w.heap.size = g := by simpa [Value.ownBlock] using hg
      refine ⟨_, heap_alloc_new w.drew _, fun x hx => ?_⟩
      rw [Array.toList_append, Array.toList_append, List.mem_append, List.mem_append] at hx
      rcases hx with (hx | hx) | hx
      · exact icells_num (by simpa using hx)
      · exact icells_num (by simpa using hx)
      · exact zc _ x hx
/-- the append, at the operation -/
theorem wp_append_ids {o : Oper} {a : Act} {K : Act → World → Prop} {Q : Exit → Act → World → Prop} (w : World) (s x : Operand) (hop : o.op = Op.call { callee := Callee.builtin Builtin.append, args := #[s, x], argTypes := #[50, 50] })
    (base : Nat) (v : Value) (L N : List Id3) (hown : OwnI w base v L) (p : Addr) (n c : Nat) (hn : n = N.length) (hnews : ∀ (j : Nat) u, (icells N)[j]? = some u → w.cell? (p.add j) = some u) (h63 : L.length + N.length ≤ 4294967296) (hbase : base ≤ w.heap.size)
    (hs : a.eval s = v) (hx : a.eval x = .slice (some p) n c)
    (hK : ∀ v' w', OwnI w' base v' (L ++ N) → w.grownBy w' v.ownBlock → K (a.put o.dst v') w') : Oper.wp Tryz.prog o a w K Q := by
  subst hn
  obtain ⟨v', w', hr, h2, h3⟩ := run_append_ids 50 o.type Tryz.underlying50 base v L N w hown p c hnews h63 hbase
  unfold Oper.wp execOp
  simp only [hop, resolve, invoke, builtin, Sem.run_bind, Sem.run_pure, Result.andThen_ok, List.map_toArray, List.map_cons, List.map_nil, hs, hx, hr]
  exact hK v' w' h2 h3
theorem wpList_append_ids {ops : Array Oper} {rest : List Oper} {o : Oper} {a : Act} {Q : Exit → Act → World → Prop} (w : World) (hg : o.guard = none) (s x : Operand) (hop : o.op = Op.call { callee := Callee.builtin Builtin.append, args := #[s, x], argTypes := #[50, 50] })
    (base : Nat) (v : Value) (L N : List Id3) (hown : OwnI w base v L) (p : Addr) (n c : Nat) (hn : n = N.length) (hnews : ∀ (j : Nat) u, (icells N)[j]? = some u → w.cell? (p.add j) = some u) (h63 : L.length + N.length ≤ 4294967296) (hbase : base ≤ w.heap.size)
    (hs : a.eval s = v) (hx : a.eval x = .slice (some p) n c)
    (hK : ∀ v' w', OwnI w' base v' (L ++ N) → w.grownBy w' v.ownBlock → wpList Tryz.prog ops Q rest (a.put o.dst v') w') : wpList Tryz.prog ops Q (o :: rest) a w :=
  wpList_plain hg fun _ hK' => wp_append_ids w s x hop base v L N hown p n c hn hnews h63 hbase hs hx fun v' w' h2 h3 => hK' _ _ (hK v' w' h2 h3)
theorem step_append_ids {ops : Array Oper} {o : Oper} {a : Act} {K : Act → World → Prop} {Q : Exit → Act → World → Prop} {E : Prop} (w : World) (hw : Region.wanted o (yielded ops a.tmps) = true) (s x : Operand) (hop : o.op = Op.call { callee := Callee.builtin Builtin.append, args := #[s, x], argTypes := #[50, 50] })
    (base : Nat) (v : Value) (L N : List Id3) (hown : OwnI w base v L) (p : Addr) (n c : Nat) (hn : n = N.length) (hnews : ∀ (j : Nat) u, (icells N)[j]? = some u → w.cell? (p.add j) = some u) (h63 : L.length + N.length ≤ 4294967296) (hbase : base ≤ w.heap.size)
    (hs : a.eval s = v) (hx : a.eval x = .slice (some p) n c)
    (hK : ∀ v' w', OwnI w' base v' (L ++ N) → w.grownBy w' v.ownBlock → K (a.put o.dst v') w') :
    if Region.wanted o (yielded ops a.tmps) = true then Oper.wp Tryz.prog o a w K Q else E := by
  rw [if_pos hw]
  exact wp_append_ids w s x hop base v L N hown p n c hn hnews h63 hbase hs hx hK
end Go.Proofs.YtecnnlppinhmgaaGreatDoor.IdR
namespace Go.Proofs.YtecnnlppinhmgaaGreatDoor.SfT
open Go.RowKit Go.Proofs.YtecnnlppinhmgaaGreatDoor Go.Proofs.YtecnnlppinhmgaaGreatDoor.HtW Go.Proofs.YtecnnlppinhmgaaGreatDoor.DiskB Go.Proofs.YtecnnlppinhmgaaGreatDoor.SfA Go.Proofs.YtecnnlppinhmgaaGreatDoor.SfB Go.Proofs.YtecnnlppinhmgaaGreatDoor.IdBox

/-- what stands while Delete goes on -/
abbrev Sd (sb d g : Nat) (x y z : Int) (W : World) : Prop := W.cell? ⟨sb, 1, none⟩ = some (.pointer (some ⟨d, 0, none⟩)) ∧ W.cell? ⟨g, 0, none⟩ = some (.int .i64 x) ∧ W.cell? ⟨g, 1, none⟩ = some (.int .i64 y) ∧ W.cell? ⟨g, 2, none⟩ = some (.int .i64 z)
set_option maxHeartbeats 4000000 in
set_option maxRecDepth 100000 in
theorem delete {lo d mb sb : Nat} {M : Dp.Files} {full : Bool} {lost : Int} {node : Nat} (x y z : Int) (w0 w : World) {aL aB aD aN aF aG : Addr} (hE : Env w0 aL aB aD aN aF aG) (h0 : Below w0.heap.size w0 w) (hS : Sf w sb node d) (hsb : sb ≠ mb) (hd : Dw.Drive lo d mb w M full lost) (hx : FrK.goodB x y z = true) :
    Calls Tryz.prog 23 #[.pointer (some ⟨sb, 0, none⟩), .agg #[.int .i64 x, .int .i64 y, .int .i64 z]] w fun e w' => e = .returned (erv aN aF aG (askE M (nm 98 x y z))) ∧ Dw.Drive lo d mb w' (deM M (nm 98 x y z)) full lost ∧ Dw.Keep [mb] w w' := by
  have hgb : 0 ≤ x ∧ x < 16 ∧ 0 ≤ y ∧ y ≤ 1099511627776 ∧ 0 ≤ z ∧ z ≤ 1099511627776 := by unfold FrK.goodB at hx; exact of_decide_eq_true hx
  have hfx : Few x := ⟨by omega, by omega⟩
  have hfy : Few y := ⟨by omega, by omega⟩
  have hfz : Few z := ⟨by omega, by omega⟩
  obtain ⟨w1, hw1, hb1, hx1⟩ : ∃ w1, w1 = w.alloc (.cells #[.int .i64 x, .int .i64 y, .int .i64 z] 23) ∧ Below w.heap.size w w1 ∧ Ix w1 w.heap.size x y z := ⟨_, rfl, (Below.refl _ _).alloc (Nat.le_refl _) _, heap_alloc_new _ _⟩
  have KG := Lib.hid (FrK.good x y z w1)
  rw [hx] at KG
  have HE := Lib.hid hE
  have H0 := Lib.hid h0
  have HS := Lib.hid hS
  have HD := Lib.hid hd
  have HX := Lib.hid hx1
  have HW1 := Lib.hid hb1
  have HSB := Lib.hid hsb
  obtain ⟨c0, c1, c2⟩ := hx1.cells
  clear hE h0 hS hd hx1 hb1 hx hgb hsb
  go_enter Tryz.func23, Tryz.ntmps23
  go_upto_region 1 with fail
  rw [← hw1]
  clear hw1
  go_upto_region 3 with (go_at_call 37; refine KG.out.mono ?_; rintro e w2 ⟨rfl, hb2⟩)
  obtain ⟨gi, hgi⟩ : ∃ gi, gi = w.heap.size := ⟨_, rfl⟩
  have HW2 := Lib.hid (HW1.out.trans (hb2.mono HW1.out.size))
  have HX2 := Lib.hid (HX.out.below hb2)
  rw [← hgi] at HX2 ⊢
  have HGI := Lib.hid hgi
  have hS2 : Sd sb d gi x y z w2.drew := ⟨(HS.out.below HW2.out).cells.2, HX2.out.cells.1, HX2.out.cells.2.1, HX2.out.cells.2.2⟩
  have HB2 := Lib.hid (show Below w.heap.size w w2.drew from HW2.out.drew)
  have KN := Lib.hid (name 98 x y z w2.drew hfx hfy hfz (HE.out.below (H0.out.trans (HB2.out.mono H0.out.size))).tab)
  have HNS := Lib.hid (nm_size (x := 98) hfx hfy hfz)
  obtain ⟨N, hN⟩ : ∃ N, N = nm 98 x y z := ⟨_, rfl⟩
  rw [← hN] at KN HNS
  have HNM := Lib.hid hN
  clear hb2 c0 c1 c2 hN hgi KG hfx hfy hfz
  refine HeldH.region (fun W => W.cell? ⟨sb, 1, none⟩ = some (.pointer (some ⟨d, 0, none⟩)) ∧ W.cell? ⟨gi, 0, none⟩ = some (.int .i64 x) ∧ W.cell? ⟨gi, 1, none⟩ = some (.int .i64 y) ∧ W.cell? ⟨gi, 2, none⟩ = some (.int .i64 z)) (by kernel_rfl) ?_
  refine HeldH.take (i := 0) (v := ?v0) rfl (by kernel_rfl) (by kernel_rfl) (by kernel_rfl) (fun _ _ _ h => h) hS2 (by rfl) ?hy0 ?hr0
  case hy0 => intro W hSw; obtain ⟨s0, s1, s2, s3⟩ := hSw; go_simp; try with_reducible rfl
  try simp only [Act.put, List.setIfInBounds_toArray]
  refine HeldH.take (i := 1) (v := ?v1) rfl (by kernel_rfl) (by kernel_rfl) (by kernel_rfl) (fun _ _ _ h => h) hS2 (by rfl) ?hy1 ?hr1
  case hy1 => intro W hSw; obtain ⟨s0, s1, s2, s3⟩ := hSw; go_simp; try with_reducible rfl
  try simp only [Act.put]
  refine HeldH.take (i := 2) (v := ?v2) rfl (by kernel_rfl) (by kernel_rfl) (by kernel_rfl) (fun _ _ _ h => h) hS2 (by rfl) ?hy2 ?hr2
  case hy2 => intro W hSw; obtain ⟨s0, s1, s2, s3⟩ := hSw; go_simp; try with_reducible rfl
  try simp only [Act.put]
  refine HeldH.take (i := 3) (v := ?v3) rfl (by kernel_rfl) (by kernel_rfl) (by kernel_rfl) (fun _ _ _ h => h) hS2 (by rfl) ?hy3 ?hr3
  case hy3 => intro W hSw; obtain ⟨s0, s1, s2, s3⟩ := hSw; go_simp; try with_reducible rfl
  try simp only [Act.put]
  refine HeldH.take (i := 4) (v := ?v4) rfl (by kernel_rfl) (by kernel_rfl) (by kernel_rfl) (fun _ _ _ h => h) hS2 (by rfl) ?hy4 ?hr4
  case hy4 => intro W hSw; obtain ⟨s0, s1, s2, s3⟩ := hSw; go_simp; try with_reducible rfl
  try simp only [Act.put]
  refine HeldH.one (i := 5) (by kernel_rfl) rfl (fun K hK => ?_)
  go_simp
  go_at_call 31
  refine KN.out.mono ?_
  rintro e w3 ⟨rfl, hb3⟩
  try go_wp2_with fail
  have hb03 : Below w.heap.size w w3 := HB2.out.trans (hb3.mono HB2.out.size)
  have hx3 := (HX2.out.below (Below.refl w2.heap.size w2).drew).below hb3
  have hS3 : Sd sb d gi x y z w3 := ⟨(HS.out.below hb03).cells.2, hx3.cells.1, hx3.cells.2.1, hx3.cells.2.2⟩
  refine hK.out _ _ hS3 ?_
  clear hK K
  try simp only [Act.put, List.setIfInBounds_toArray, List.set_cons_zero, List.set_cons_succ]
  have KD := DiskC.delete ⟨N.toArray⟩ w3 (HD.out.below hb03) (HE.out.below (H0.out.trans (hb03.mono H0.out.size))).errs HNS.out
  rw [show (ByteArray.mk N.toArray).data.toList = N from rfl] at KD
  have KD := Lib.hid KD
  refine HeldH.one (i := 6) (by kernel_rfl) rfl (fun K hK => ?_)
  go_simp
  go_at_call 45
  refine KD.out.mono ?_
  rintro e w4 ⟨rfl, hd4, hk4⟩
  try go_wp2_with fail
  have hs4 := (HS.out.below hb03).keep hk4 (by simpa using HSB.out)
  have hx4 : Ix w4 gi x y z := (hk4.block gi (Array.getElem?_eq_some_iff.1 hx3).1 (by
    have h1 := HD.out.names_lt.2
    have h2 := HGI.out
    simp
    omega)).trans hx3
  have hS4 : Sd sb d gi x y z w4 := ⟨hs4.cells.2, hx4.cells.1, hx4.cells.2.1, hx4.cells.2.2⟩
  refine hK.out _ _ hS4 ?_
  clear hK K
  try simp only [Act.put, List.setIfInBounds_toArray, List.set_cons_zero, List.set_cons_succ]
  refine HeldH.one (i := 7) (by kernel_rfl) rfl (fun K hK => ?_)
  go_simp
  refine hK.out _ _ hS4 ?_
  clear hK K
  try simp only [Act.put, List.setIfInBounds_toArray, List.set_cons_zero, List.set_cons_succ]
  refine wpAnyH_done (by kernel_rfl) ?_ _
  have HD4 := Lib.hid hd4
  have HK4 := Lib.hid ((Dw.Keep.of_below hb03 [mb]).trans hk4)
  clear hd4 hk4 hs4 hx4 hS4 hS3 hx3
  go_wp2_with fail
  go_ret
  rw [← HNM.out]
  exact ⟨rfl, HD4.out, HK4.out⟩
end Go.Proofs.YtecnnlppinhmgaaGreatDoor.SfT
namespace Go.Proofs.YtecnnlppinhmgaaGreatDoor.SfH
open Go.RowKit Go.Proofs.YtecnnlppinhmgaaGreatDoor Go.Proofs.YtecnnlppinhmgaaGreatDoor.HtW Go.Proofs.YtecnnlppinhmgaaGreatDoor.DiskB Go.Proofs.YtecnnlppinhmgaaGreatDoor.SfA Go.Proofs.YtecnnlppinhmgaaGreatDoor.SfB Go.Proofs.YtecnnlppinhmgaaGreatDoor.SfC Go.Proofs.YtecnnlppinhmgaaGreatDoor.IdBox

set_option maxHeartbeats 2000000 in
set_option maxRecDepth 100000 in
theorem has {lo d mb sb : Nat} {M : Dp.Files} {full : Bool} {lost : Int} {node : Nat} (x y z : Int) (f : List UInt8) (w0 w : World) {aL aB aD aN aF aG : Addr} (hE : Env w0 aL aB aD aN aF aG) (h0 : Below w0.heap.size w0 w) (hS : Sf w sb node d) (hd : Dw.Drive lo d mb w M full lost) (hM : ∀ p ∈ M, p.2.bytes.length ≤ 140737488351232) (hx : FrK.goodB x y z = true) (ha : askE M (nm 98 x y z) = .ok) (hf : rdL M (nm 98 x y z) = f) (hl : f.length ≤ 140737488351232) :
    Calls Tryz.prog 16 #[.pointer (some ⟨sb, 0, none⟩), .agg #[.int .i64 x, .int .i64 y, .int .i64 z]] w fun e w' => e = .returned (.bool (GetV f x y z node)) ∧ Below w.heap.size w w' := by
  obtain ⟨w1, hw1, hb1, hx1⟩ : ∃ w1, w1 = w.alloc (.cells #[.int .i64 x, .int .i64 y, .int .i64 z] 23) ∧ Below w.heap.size w w1 ∧ Ix w1 w.heap.size x y z := ⟨_, rfl, (Below.refl _ _).alloc (Nat.le_refl _) _, heap_alloc_new _ _⟩
  have KG := Lib.hid (SfC.get x y z f w0 w1 hE (h0.trans (hb1.mono h0.size)) (hS.below hb1) (hd.below hb1) hM hx ha hf hl)
  have HB1 := Lib.hid hb1
  obtain ⟨c0, c1, c2⟩ := hx1.cells
  clear hE h0 hS hd hM hx ha hf hb1 hx1
  cases hv : GetV f x y z node
  · rw [hv] at KG
    have KG := Lib.hid (show Calls Tryz.prog 14 #[.pointer (some ⟨sb, 0, none⟩), .agg #[.int .i64 x, .int .i64 y, .int .i64 z]] w1 fun e w' => e = .returned (.tuple #[.slice none 0 0, Err.ev aL]) ∧ Below w1.heap.size w1 w' from KG.out)
    clear hv
    go_enter Tryz.func16, Tryz.ntmps16
    go_upto_region 1 with fail
    rw [← hw1]
    clear hw1
    go_wp2_with (go_at_call 14; refine KG.out.mono ?_; rintro e w2 ⟨rfl, hb2⟩)
    go_ret
    exact ⟨rfl, HB1.out.trans (hb2.mono HB1.out.size)⟩
  · rw [hv] at KG
    have KG := Lib.hid (show Calls Tryz.prog 14 #[.pointer (some ⟨sb, 0, none⟩), .agg #[.int .i64 x, .int .i64 y, .int .i64 z]] w1 fun e w' => (∃ a c, e = .returned (.tuple #[.slice a f.length c, .nilIface]) ∧ Bs w' a f c) ∧ Below w1.heap.size w1 w' from KG.out)
    clear hv
    go_enter Tryz.func16, Tryz.ntmps16
    go_upto_region 1 with fail
    rw [← hw1]
    clear hw1
    go_wp2_with (go_at_call 14; refine KG.out.mono ?_; rintro e w2 ⟨⟨a2, c2', rfl, -⟩, hb2⟩)
    go_ret
    exact ⟨rfl, HB1.out.trans (hb2.mono HB1.out.size)⟩
end Go.Proofs.YtecnnlppinhmgaaGreatDoor.SfH
