/-
  Requests in memory, one behind the other; which of them the law HttpRows takes, and their bytes.
-/
import Derived.Test.YtnhjbcjeeilicaaDoorHtBI
import Derived.Test.YtnhjbcjeeilicaaDoorSlc
namespace Go.Proofs.YtnhjbcjeeilicaaDoor.HtBJ
open Go.RowKit Go.Proofs.YtnhjbcjeeilicaaDoor Go.Proofs.YtnhjbcjeeilicaaDoor.Ht Go.Proofs.YtnhjbcjeeilicaaDoor.HtW Go.Proofs.YtnhjbcjeeilicaaDoor.HtC Go.Proofs.YtnhjbcjeeilicaaDoor.HtBB Go.Proofs.YtnhjbcjeeilicaaDoor.HtBI

/-- a request and where its parts lie -/
structure Rd where
  m : List UInt8
  t : List UInt8
  bd : List UInt8
  fs : List Fld
  a : Option Addr
  c : Nat
  ab : Option Addr
  cb : Nat
def Rd.req (r : Rd) : List UInt8 := HtBB.req r.m r.t r.fs r.bd
def Rd.plain (r : Rd) : Bool := isPlain r.m r.t r.bd r.fs
def Rd.v0 (r : Rd) : Value := .string ⟨r.m.toArray⟩
def Rd.v1 (r : Rd) : Value := .string ⟨r.t.toArray⟩
def Rd.v2 (r : Rd) : Value := .slice r.a r.fs.length r.c
def Rd.v3 (r : Rd) : Value := .slice r.ab r.bd.length r.cb
def Rd.lies (w : World) (r : Rd) : Prop := Fs w r.a r.fs ∧ Bs w r.ab r.bd r.cb
theorem Rd.lies.below {w w' : World} {r : Rd} (h : r.lies w) (hb : Below w.heap.size w w') : r.lies w' := ⟨h.1.below hb, h.2.below hb⟩
/-- is it taken? -/
def Rd.ok (i : Nat) (r : Rd) : Bool := decide (i < 30) && decide (r.bd.length ≤ 1024) && decide (r.fs.length ≤ 32) && r.plain
/-- those that are taken of the first k -/
def sel (L : List Rd) : Nat → List Rd
  | 0 => []
  | k + 1 => match L[k]? with
    | none => sel L k
    | some r => if r.ok k = true then sel L k ++ [r] else sel L k
theorem sel_yes {L : List Rd} {k : Nat} {r : Rd} (h : L[k]? = some r) (ho : r.ok k = true) : sel L (k + 1) = sel L k ++ [r] := by
  conv => lhs; unfold sel
  rw [h]
  exact if_pos ho
theorem sel_no {L : List Rd} {k : Nat} {r : Rd} (h : L[k]? = some r) (ho : r.ok k = false) : sel L (k + 1) = sel L k := by
  conv => lhs; unfold sel
  rw [h]
  exact if_neg (by rw [ho]; simp)
theorem sel_len (L : List Rd) : ∀ k, (sel L k).length ≤ k ∧ (sel L k).length ≤ 30
  | 0 => by simp [sel]
  | k + 1 => by
    have ih := sel_len L k
    unfold sel
    split
    · omega
    · rename_i r _
      split
      · rename_i ho
        unfold Rd.ok at ho
        simp only [Bool.and_eq_true, decide_eq_true_eq] at ho
        rw [List.length_append, List.length_singleton]
        omega
      · omega
theorem sel_mem {L : List Rd} : ∀ {k : Nat} {r : Rd}, r ∈ sel L k → r ∈ L ∧ r.plain = true ∧ r.bd.length ≤ 1024 ∧ r.fs.length ≤ 32
  | 0, r, h => by simp [sel] at h
  | k + 1, r, h => by
    unfold sel at h
    split at h
    · exact sel_mem h
    · rename_i x hx
      split at h
      · rename_i ho
        rcases List.mem_append.1 h with h | h
        · exact sel_mem h
        · obtain rfl := List.mem_singleton.1 h
          unfold Rd.ok at ho
          simp only [Bool.and_eq_true, decide_eq_true_eq] at ho
          exact ⟨List.mem_of_getElem? hx, ho.2, ho.1.1.2, ho.1.2⟩
      · exact sel_mem h
/-- their bytes -/
def cat (R : List Rd) : List UInt8 := R.flatMap Rd.req
theorem cat_snoc (R : List Rd) (r : Rd) : cat (R ++ [r]) = cat R ++ r.req := by simp [cat]
theorem cat_cons {R : List Rd} {j : Nat} {r : Rd} (h : R[j]? = some r) : cat (R.drop j) = r.req ++ cat (R.drop (j + 1)) := by
  obtain ⟨hl, rfl⟩ := List.getElem?_eq_some_iff.1 h
  rw [List.drop_eq_getElem_cons hl]
  rfl
theorem cat_len {R : List Rd} (h : ∀ r ∈ R, r.req.length ≤ 134217728) : (cat R).length ≤ R.length * 134217728 := by
  induction R with
  | nil => simp [cat]
  | cons x l ih =>
    have h1 := ih fun r hr => h r (List.mem_cons_of_mem _ hr)
    have h2 := h x List.mem_cons_self
    have e : cat (x :: l) = x.req ++ cat l := by simp [cat]
    rw [e, List.length_append, List.length_cons]
    omega
theorem cat_drop (R : List Rd) (j : Nat) : (cat (R.drop j)).length ≤ (cat R).length := by
  have e : cat R = cat (R.take j) ++ cat (R.drop j) := by
    unfold cat
    rw [← List.flatMap_append, List.take_append_drop]
  rw [e, List.length_append]
  omega
theorem parse_at {R : List Rd} {j : Nat} {r : Rd} (h : R[j]? = some r) (hp : r.plain = true) (x : List UInt8) : Ht.parse (cat (R.drop j) ++ x) = .ok r.m r.t r.fs r.bd r.req.length := by
  obtain ⟨n, hn⟩ := plain_yes hp
  rw [cat_cons h, List.append_assoc]
  exact req_parse hn _

/-- requests, as cells -/
def rcells (R : List Rd) : List Value := R.flatMap fun r => [r.v0, r.v1, r.v2, r.v3]
theorem rcells_snoc (R : List Rd) (r : Rd) : rcells (R ++ [r]) = rcells R ++ [r.v0, r.v1, r.v2, r.v3] := by simp [rcells]
theorem rcells_get {R : List Rd} : ∀ {j : Nat} {r : Rd}, R[j]? = some r → (rcells R)[j * 4]? = some r.v0 ∧ (rcells R)[j * 4 + 1]? = some r.v1 ∧ (rcells R)[j * 4 + 2]? = some r.v2 ∧ (rcells R)[j * 4 + 3]? = some r.v3 := by
  induction R with
  | nil => intro j r h; simp at h
  | cons q l ih =>
    intro j r h
    cases j with
    | zero => simp at h; subst h; simp [rcells]
    | succ j =>
      have := ih (j := j) (r := r) (by simpa using h)
      simp only [rcells, List.flatMap_cons] at this ⊢
      rw [show (j + 1) * 4 = j * 4 + 4 by omega, show j * 4 + 4 + 1 = (j * 4 + 1) + 4 by omega, show j * 4 + 4 + 2 = (j * 4 + 2) + 4 by omega, show j * 4 + 4 + 3 = (j * 4 + 3) + 4 by omega]
      simpa using this
/-- requests lie at a -/
def Rs (w : World) (a : Option Addr) (R : List Rd) : Prop :=
  (R = [] ∨ ∃ b o, a = some ⟨b, o, none⟩ ∧ b < w.heap.size ∧ ∀ (j : Nat) r, R[j]? = some r → w.cell? ⟨b, o + j * 4, none⟩ = some r.v0 ∧ w.cell? ⟨b, o + j * 4 + 1, none⟩ = some r.v1 ∧ w.cell? ⟨b, o + j * 4 + 2, none⟩ = some r.v2 ∧ w.cell? ⟨b, o + j * 4 + 3, none⟩ = some r.v3)
theorem Rs.below {w w' : World} {a : Option Addr} {R : List Rd} (h : Rs w a R) (hb : Below w.heap.size w w') : Rs w' a R :=
  h.imp id fun ⟨b, o, h1, h2, h3⟩ => ⟨b, o, h1, Nat.lt_of_lt_of_le h2 hb.size, fun j r hj => by
    obtain ⟨c0, c1, c2, c3⟩ := h3 j r hj
    exact ⟨(hb.cell (p := ⟨b, _, none⟩) h2).trans c0, (hb.cell (p := ⟨b, _, none⟩) h2).trans c1, (hb.cell (p := ⟨b, _, none⟩) h2).trans c2, (hb.cell (p := ⟨b, _, none⟩) h2).trans c3⟩⟩
theorem Rs.at {w : World} {a : Option Addr} {R : List Rd} (h : Rs w a R) {j : Nat} {r : Rd} (hj : R[j]? = some r) : ∃ b o, a = some ⟨b, o, none⟩ ∧ b < w.heap.size ∧ w.cell? ⟨b, o + j * 4, none⟩ = some r.v0 ∧ w.cell? ⟨b, o + j * 4 + 1, none⟩ = some r.v1 ∧ w.cell? ⟨b, o + j * 4 + 2, none⟩ = some r.v2 ∧ w.cell? ⟨b, o + j * 4 + 3, none⟩ = some r.v3 := by
  rcases h with h | ⟨b, o, h1, h2, h3⟩
  · subst h; cases hj
  · exact ⟨b, o, h1, h2, h3 j r hj⟩
theorem rs_of_own {w : World} {base : Nat} {v : Value} {R : List Rd} (h : w.ownsRow base 25 4 v R.length (rcells R)) :
    ∃ a c, v = .slice a R.length c ∧ R.length ≤ c ∧ Rs w a R := by
  rcases h.2 with ⟨rfl, h0⟩ | ⟨g, cap, cur, hv, hb, hg, hn, hm, hcs, htk⟩
  · have h0 : R = [] := List.eq_nil_of_length_eq_zero h0
    subst h0
    exact ⟨none, 0, rfl, Nat.le_refl _, .inl rfl⟩
  · refine ⟨some ⟨g, 0, none⟩, cap, hv, hn, .inr ⟨g, 0, rfl, (Array.getElem?_eq_some_iff.1 hg).1, fun j p hj => ?_⟩⟩
    obtain ⟨q0, q1, q2, q3⟩ := rcells_get hj
    have c0 := h.cells (g := g) (by rw [hv]; rfl) _ _ q0
    have c1 := h.cells (g := g) (by rw [hv]; rfl) _ _ q1
    have c2 := h.cells (g := g) (by rw [hv]; rfl) _ _ q2
    have c3 := h.cells (g := g) (by rw [hv]; rfl) _ _ q3
    rw [addr_add] at c0 c1 c2 c3
    exact ⟨c0, c1, c2, c3⟩
theorem rd_one (r : Rd) : ∀ u ∈ [r.v0, r.v1, r.v2, r.v3], u.oneCell' = true := by
  intro u hu
  simp only [List.mem_cons, List.not_mem_nil, or_false] at hu
  rcases hu with rfl | rfl | rfl | rfl <;> rfl
theorem cells_four (w : World) (v0 v1 v2 v3 : Value) (t : TypeId) (B : Nat) (hB : w.heap.size = B) : ∀ (j : Nat) u, [v0, v1, v2, v3][j]? = some u → (w.alloc (.cells #[v0, v1, v2, v3] t)).cell? ((⟨B, 0, none⟩ : Addr).add j) = some u := by
  subst hB
  intro j u hj
  match j, hj with
  | 0, hj => simp at hj; subst hj; simp [Addr.add]
  | 1, hj => simp at hj; subst hj; simp [Addr.add]
  | 2, hj => simp at hj; subst hj; simp [Addr.add]
  | 3, hj => simp at hj; subst hj; simp [Addr.add]
theorem infoReq : (Tryd.prog.info? 25).map (fun i => (i.zero, i.size, i.bytes)) = some (some (.agg #[.string ⟨#[]⟩, .string ⟨#[]⟩, .slice none 0 0, .slice none 0 0]), 4, 80) := by kernel_rfl
/-- rows of other types stay -/
theorem own_other {w w' : World} {B B' : Nat} {e e' : TypeId} {s s' n n' : Nat} {v v' : Value} {xs xs' : List Value} (h : w.ownsRow B e s v n xs) (h' : w.ownsRow B' e' s' v' n' xs') (he : e ≠ e') {row : Option Nat} (hr : row = v'.ownBlock) (hg : w.grownBy w' row) : w'.ownsRow B e s v n xs := by
  refine h.kept hg ?_
  subst hr
  rcases h.2 with ⟨rfl, _⟩ | ⟨g, cap, cur, rfl, _, hgg, _⟩
  · exact .inl rfl
  · right
    rcases h'.2 with ⟨rfl, _⟩ | ⟨g', cap', cur', rfl, _, hgg', _⟩
    · simp [Value.ownBlock]
    · simp only [Value.ownBlock, ne_eq, Option.some.injEq]
      intro e2
      subst e2
      rw [hgg] at hgg'
      simp only [Option.some.injEq, Obj.cells.injEq] at hgg'
      exact he hgg'.2.1
theorem own_empty (w : World) (base : Nat) (e : TypeId) (s : Nat) (h : base ≤ w.heap.size) : (w.alloc (.cells #[] e)).ownsRow base e s (.slice (some ⟨w.heap.size, 0, none⟩) 0 0) 0 [] :=
  ⟨by simp, .inr ⟨w.heap.size, 0, #[], rfl, h, heap_alloc_new _ _, Nat.le_refl _, by unfold maxLen; omega, by simp, by simp⟩⟩

def eqB (l l' : List UInt8) : Bool := decide (l = l')
set_option maxRecDepth 100000 in
theorem sameBytes (l l' : List UInt8) {a a' : Option Addr} {c c' : Nat} (w : World) (h : Bs w a l c) (h' : Bs w a' l' c') :
    Calls Tryd.prog 23 #[.slice a l.length c, .slice a' l'.length c'] w fun e w' => e = .returned (.bool (eqB l l')) ∧ w = w' := by
  have k1 := to_string h
  have k2 := to_string h'
  by_cases e : l = l'
  · subst e
    have HE := Lib.hid (show eqB l l = true from decide_eq_true rfl)
    go_enter Tryd.func23, Tryd.ntmps23
    go_wp2_with fail
    go_ret
    exact ⟨by rw [HE.out]; rfl, rfl⟩
  · have HE := Lib.hid (show eqB l l' = false from decide_eq_false e)
    have t1 : (l == l') = false := by simpa using e
    clear e
    go_enter Tryd.func23, Tryd.ntmps23
    go_wp2_with fail
    go_ret
    exact ⟨by rw [HE.out]; rfl, rfl⟩
end Go.Proofs.YtnhjbcjeeilicaaDoor.HtBJ
