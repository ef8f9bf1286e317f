/-
  A drive's files as a list by rising name; a map's reading tied to it. Plain: of no program.
-/
import Derived.Sort.KeysCollected
import Derived.Maps.OwnSet
namespace Go.Proofs.YtmimkgfkicgfiaaDoor.Dp
open Go.WideShapes Go.Maps Go.Sort

structure File where
  bytes : List UInt8
  safe : List UInt8
  kept : Bool
deriving DecidableEq
abbrev Files := List (List UInt8 × File)

def look : Files → List UInt8 → Option File
  | [], _ => none
  | p :: r, n => if p.1 = n then some p.2 else look r n
def put : Files → List UInt8 → File → Files
  | [], n, f => [(n, f)]
  | p :: r, n, f => if n < p.1 then (n, f) :: p :: r else if p.1 = n then (n, f) :: r else p :: put r n f
def del : Files → List UInt8 → Files
  | [], _ => []
  | p :: r, n => if p.1 = n then del r n else p :: del r n
def crash : Files → Files
  | [] => []
  | p :: r => if p.2.kept then (p.1, ⟨p.2.safe, p.2.safe, true⟩) :: crash r else crash r
def names (M : Files) : List (List UInt8) := M.map (·.1)
def Up (M : Files) : Prop := M.Pairwise fun p q => p.1 < q.1

theorem look_put_same (M : Files) (n : List UInt8) (f : File) : look (put M n f) n = some f := by
  induction M with
  | nil => simp [put, look]
  | cons p r ih =>
    unfold put
    split
    · simp [look]
    · split
      · simp [look]
      · rename_i h; simp [look, h, ih]
theorem look_put_other (M : Files) (n m : List UInt8) (f : File) (h : m ≠ n) : look (put M n f) m = look M m := by
  induction M with
  | nil => simp [put, look, Ne.symm h]
  | cons p r ih =>
    unfold put
    split
    · simp [look, Ne.symm h]
    · split
      · rename_i e; subst e; simp [look, Ne.symm h]
      · simp [look, ih]
theorem look_del_same (M : Files) (n : List UInt8) : look (del M n) n = none := by
  induction M with
  | nil => rfl
  | cons p r ih =>
    unfold del
    split
    · exact ih
    · rename_i h; simp [look, h, ih]
theorem look_del_other (M : Files) (n m : List UInt8) (h : m ≠ n) : look (del M n) m = look M m := by
  induction M with
  | nil => rfl
  | cons p r ih =>
    unfold del
    split
    · rename_i e; subst e; simp [look, ih, Ne.symm h]
    · simp [look, ih]
theorem put_mem {M : Files} {n : List UInt8} {f : File} {p : List UInt8 × File} (h : p ∈ put M n f) : p = (n, f) ∨ p ∈ M := by
  induction M with
  | nil => simpa [put] using h
  | cons q r ih =>
    unfold put at h
    split at h
    · simpa using h
    · split at h
      · rcases List.mem_cons.1 h with h | h
        · exact .inl h
        · exact .inr (List.mem_cons_of_mem _ h)
      · rcases List.mem_cons.1 h with h | h
        · exact .inr (h ▸ List.mem_cons_self)
        · rcases ih h with h | h
          · exact .inl h
          · exact .inr (List.mem_cons_of_mem _ h)
theorem del_mem {M : Files} {n : List UInt8} {p : List UInt8 × File} (h : p ∈ del M n) : p ∈ M := by
  induction M with
  | nil => cases h
  | cons q r ih =>
    unfold del at h
    split at h
    · exact List.mem_cons_of_mem _ (ih h)
    · rcases List.mem_cons.1 h with h | h
      · exact h ▸ List.mem_cons_self
      · exact List.mem_cons_of_mem _ (ih h)
theorem up_put {M : Files} (h : Up M) (n : List UInt8) (f : File) : Up (put M n f) := by
  induction M with
  | nil => simp [put, Up]
  | cons p r ih =>
    obtain ⟨h1, h2⟩ := List.pairwise_cons.1 h
    unfold put
    split
    · rename_i hlt
      refine List.pairwise_cons.2 ⟨fun q hq => ?_, h⟩
      rcases List.mem_cons.1 hq with rfl | hq
      · exact hlt
      · exact List.lt_trans hlt (h1 q hq)
    · split
      · rename_i e
        subst e
        exact List.pairwise_cons.2 ⟨h1, h2⟩
      · rename_i a b
        refine List.pairwise_cons.2 ⟨fun q hq => ?_, ih h2⟩
        rcases put_mem hq with rfl | hq
        · by_cases hlt : p.1 < n
          · exact hlt
          · exact absurd (List.le_antisymm (List.not_lt.1 a) (List.not_lt.1 hlt)) b
        · exact h1 q hq
theorem up_del {M : Files} (h : Up M) (n : List UInt8) : Up (del M n) := by
  induction M with
  | nil => exact h
  | cons p r ih =>
    obtain ⟨h1, h2⟩ := List.pairwise_cons.1 h
    unfold del
    split
    · exact ih h2
    · exact List.pairwise_cons.2 ⟨fun q hq => h1 q (del_mem hq), ih h2⟩
theorem look_none {M : Files} {n : List UInt8} (h : ∀ p ∈ M, p.1 ≠ n) : look M n = none := by
  induction M with
  | nil => rfl
  | cons p r ih => simp [look, h p List.mem_cons_self, ih fun q hq => h q (List.mem_cons_of_mem _ hq)]
theorem look_some {M : Files} {n : List UInt8} {f : File} (h : look M n = some f) : (n, f) ∈ M := by
  induction M with
  | nil => cases h
  | cons p r ih =>
    unfold look at h
    split at h
    · rename_i e
      obtain rfl : p.2 = f := by simpa using h
      subst e
      exact List.mem_cons_self
    · exact List.mem_cons_of_mem _ (ih h)
theorem look_of_mem {M : Files} (hu : Up M) {n : List UInt8} {f : File} (h : (n, f) ∈ M) : look M n = some f := by
  induction M with
  | nil => cases h
  | cons p r ih =>
    obtain ⟨h1, h2⟩ := List.pairwise_cons.1 hu
    unfold look
    rcases List.mem_cons.1 h with rfl | h
    · simp
    · have := h1 _ h
      rw [if_neg (fun e => List.lt_irrefl n (by rw [e] at this; exact this))]
      exact ih h2 h
theorem length_put (M : Files) (hu : Up M) (n : List UInt8) (f : File) : (put M n f).length = if (look M n).isSome then M.length else M.length + 1 := by
  induction M with
  | nil => simp [put, look]
  | cons p r ih =>
    obtain ⟨h1, h2⟩ := List.pairwise_cons.1 hu
    unfold put look
    split
    · rename_i hlt
      have e1 : p.1 ≠ n := fun e => List.lt_irrefl n (by rw [e] at hlt; exact hlt)
      have e2 : look r n = none := look_none fun q hq e => List.lt_irrefl n (by
        have := List.lt_trans hlt (h1 q hq)
        rw [e] at this
        exact this)
      simp [e1, e2]
    · split
      · rename_i e; simp
      · rename_i e
        simp only [List.length_cons, ih h2]
        split <;> simp_all
theorem length_del (M : Files) (hu : Up M) (n : List UInt8) : (del M n).length + (if (look M n).isSome then 1 else 0) = M.length := by
  induction M with
  | nil => simp [del, look]
  | cons p r ih =>
    obtain ⟨h1, h2⟩ := List.pairwise_cons.1 hu
    unfold del look
    have ih := ih h2
    split
    · rename_i e
      have e2 : look r n = none := look_none fun q hq e' => List.lt_irrefl n (by
        have := h1 q hq
        rw [e, e'] at this
        exact this)
      rw [e2] at ih
      simp at ih ⊢
      exact ih
    · simp only [List.length_cons]; omega
theorem nodup_names {M : Files} (hu : Up M) : (names M).Nodup := by
  refine List.pairwise_map.2 (List.Pairwise.imp (fun {p q : List UInt8 × File} (h : p.1 < q.1) => ?_) hu)
  intro e
  rw [e] at h
  exact List.lt_irrefl q.1 h
theorem mem_names {M : Files} {n : List UInt8} : n ∈ names M ↔ (look M n).isSome = true := by
  induction M with
  | nil => simp [names, look]
  | cons p r ih =>
    unfold names at ih
    simp only [names, List.map_cons, List.mem_cons, ih, look]
    split
    · rename_i e; simp [e]
    · rename_i e; simp [Ne.symm e]
theorem sorted_names {M : Files} (hu : Up M) : (names M).mergeSort (fun x y => decide (x ≤ y)) = names M :=
  List.mergeSort_of_pairwise (List.pairwise_map.2 (hu.imp fun {p q} h => by simpa using List.le_of_lt h))

/-- the map's reading is that list; each file's value stands for it by Q -/
structure Tie (Q : Value → File → Prop) (D : DataW Value) (M : Files) : Prop where
  up : Up M
  tidy : Tidy D
  size : size D = M.length
  miss : ∀ n, look M n = none → has D (.string n) = false
  hit : ∀ n f, look M n = some f → has D (.string n) = true ∧ ∃ v, (∀ z, D.atKey (.string n) z = .held v) ∧ Q v f

theorem isKey (n : List UInt8) : WideAt.IsKeyLit (.string n) := by simp [WideAt.IsKeyLit]
theorem lit_ne {n m : List UInt8} (h : n ≠ m) : Lit.string n ≠ .string m := fun e => h (by simpa using e)

theorem Tie.empty (Q : Value → File → Prop) : Tie Q (.map []) [] :=
  ⟨List.Pairwise.nil, tidy_empty, rfl, fun _ _ => rfl, fun _ _ h => by cases h⟩
theorem Tie.mono {Q Q' : Value → File → Prop} {D : DataW Value} {M : Files} (h : Tie Q D M) (hq : ∀ v f, Q v f → Q' v f) : Tie Q' D M :=
  ⟨h.up, h.tidy, h.size, h.miss, fun n f hf => let ⟨a, v, b, c⟩ := h.hit n f hf; ⟨a, v, b, hq v f c⟩⟩
theorem Tie.has {Q : Value → File → Prop} {D : DataW Value} {M : Files} (h : Tie Q D M) (n : List UInt8) : has D (.string n) = (look M n).isSome := by
  cases e : look M n with
  | none => exact h.miss n e
  | some f => exact (h.hit n f e).1
theorem Tie.put {Q : Value → File → Prop} {D : DataW Value} {M : Files} (h : Tie Q D M) {n : List UInt8} {v : Value} {f : File} (hv : Q v f) : Tie Q (D.put (.string n) (.held v)) (put M n f) := by
  refine ⟨up_put h.up n f, h.tidy.put (isKey n) _, ?_, fun m hm => ?_, fun m g hg => ?_⟩
  · rw [size_put h.tidy, length_put M h.up, h.has n, h.size]
  · by_cases e : m = n
    · subst e; rw [look_put_same] at hm; cases hm
    · rw [look_put_other _ _ _ _ e] at hm
      rw [has_put_other (lit_ne e)]
      exact h.miss m hm
  · by_cases e : m = n
    · subst e
      rw [look_put_same] at hg
      obtain rfl : f = g := by simpa using hg
      exact ⟨has_put_same h.tidy.isMap (isKey m) _, v, fun z => atKey_put_same h.tidy.isMap (isKey m) _ z, hv⟩
    · rw [look_put_other _ _ _ _ e] at hg
      obtain ⟨a, v', b, c⟩ := h.hit m g hg
      exact ⟨by rw [has_put_other (lit_ne e)]; exact a, v', fun z => by rw [atKey_put_other (lit_ne e)]; exact b z, c⟩
theorem Tie.del {Q : Value → File → Prop} {D : DataW Value} {M : Files} (h : Tie Q D M) (n : List UInt8) : Tie Q (D.del (.string n)) (del M n) := by
  refine ⟨up_del h.up n, h.tidy.del _, ?_, fun m hm => ?_, fun m g hg => ?_⟩
  · have h1 := size_del (k := .string n) h.tidy
    have h2 := length_del M h.up n
    rw [h.has n, h.size] at h1
    omega
  · by_cases e : m = n
    · subst e; exact has_del_same
    · rw [look_del_other _ _ _ e] at hm
      rw [has_del_other (lit_ne e)]
      exact h.miss m hm
  · by_cases e : m = n
    · subst e; rw [look_del_same] at hg; cases hg
    · rw [look_del_other _ _ _ e] at hg
      obtain ⟨a, v', b, c⟩ := h.hit m g hg
      exact ⟨by rw [has_del_other (lit_ne e)]; exact a, v', fun z => by rw [atKey_del_other (lit_ne e)]; exact b z, c⟩
/-- the keys, sorted, are the names -/
theorem Tie.sorted {Q : Value → File → Prop} {es : List (Lit × DataW Value)} {M : Files} (h : Tie Q (.map es) M) (hk : ∀ p ∈ es, ∃ x, p.1 = .string x) {ss : List (List UInt8)} (hp : ss.Perm (strKeys (.map es))) :
    ss.mergeSort (fun x y => decide (x ≤ y)) = names M := by
  obtain ⟨es', he, hap⟩ := h.tidy
  obtain rfl : es = es' := by simpa using he
  have h1 : (names M).Perm (strKeys (.map es)) := perm_strKeys hap hk (nodup_names h.up) fun x => by rw [h.has x]; exact mem_names
  rw [mergeSort_of_perm (hp.trans h1.symm)]
  exact sorted_names h.up

theorem crash_names {M : Files} {p : List UInt8 × File} (h : p ∈ crash M) : ∃ q ∈ M, q.1 = p.1 := by
  induction M with
  | nil => cases h
  | cons q r ih =>
    unfold crash at h
    split at h
    · rcases List.mem_cons.1 h with rfl | h
      · exact ⟨q, List.mem_cons_self, rfl⟩
      · obtain ⟨x, hx, e⟩ := ih h; exact ⟨x, List.mem_cons_of_mem _ hx, e⟩
    · obtain ⟨x, hx, e⟩ := ih h; exact ⟨x, List.mem_cons_of_mem _ hx, e⟩


theorem put_mid {B r : Files} {n : List UInt8} {g : File} (f : File) (h : ∀ q ∈ B, q.1 < n) : put (B ++ (n, g) :: r) n f = B ++ (n, f) :: r := by
  induction B with
  | nil => simp [put, List.lt_irrefl]
  | cons q B ih =>
    have h1 := h q List.mem_cons_self
    rw [List.cons_append, put, if_neg (fun h2 => List.lt_irrefl _ (List.lt_trans h1 h2)), if_neg (fun e => List.lt_irrefl n (by rw [e] at h1; exact h1)), ih fun q hq => h q (List.mem_cons_of_mem _ hq)]
    rfl
theorem del_none {r : Files} {n : List UInt8} (h : ∀ q ∈ r, q.1 ≠ n) : del r n = r := by
  induction r with
  | nil => rfl
  | cons q r ih => rw [del, if_neg (h q List.mem_cons_self), ih fun q hq => h q (List.mem_cons_of_mem _ hq)]
theorem del_mid {B r : Files} {n : List UInt8} {g : File} (h : ∀ q ∈ B, q.1 < n) (h2 : ∀ q ∈ r, n < q.1) : del (B ++ (n, g) :: r) n = B ++ r := by
  induction B with
  | nil =>
    rw [List.nil_append, del, if_pos rfl]
    exact del_none fun q hq e => List.lt_irrefl n (by have := h2 q hq; rw [e] at this; exact this)
  | cons q B ih =>
    have h1 := h q List.mem_cons_self
    rw [List.cons_append, del, if_neg (fun e => List.lt_irrefl n (by rw [e] at h1; exact h1)), ih fun q hq => h q (List.mem_cons_of_mem _ hq)]
    rfl
theorem look_mid {B r : Files} {n : List UInt8} {g : File} (h : ∀ q ∈ B, q.1 < n) : look (B ++ (n, g) :: r) n = some g := by
  induction B with
  | nil => simp [look]
  | cons q B ih =>
    have h1 := h q List.mem_cons_self
    rw [List.cons_append, look, if_neg (fun e => List.lt_irrefl n (by rw [e] at h1; exact h1)), ih fun q hq => h q (List.mem_cons_of_mem _ hq)]
theorem crash_append (A B : Files) : crash (A ++ B) = crash A ++ crash B := by
  induction A with
  | nil => rfl
  | cons p A ih => rw [List.cons_append, crash, crash]; split <;> simp [ih]
/-- one round of a crash -/
theorem crash_round {A r : Files} {p : List UInt8 × File} (hu : Up (A ++ p :: r)) :
    look (crash A ++ p :: r) p.1 = some p.2 ∧
    (p.2.kept = true → put (crash A ++ p :: r) p.1 ⟨p.2.safe, p.2.safe, true⟩ = crash (A ++ [p]) ++ r) ∧
    (p.2.kept = false → del (crash A ++ p :: r) p.1 = crash (A ++ [p]) ++ r) := by
  obtain ⟨h1, h2, h3⟩ := List.pairwise_append.1 hu
  obtain ⟨h4, h5⟩ := List.pairwise_cons.1 h2
  have hA : ∀ q ∈ crash A, q.1 < p.1 := fun q hq => by
    obtain ⟨x, hx, e⟩ := crash_names hq
    rw [← e]
    exact h3 x hx p List.mem_cons_self
  refine ⟨look_mid hA, fun hk => ?_, fun hk => ?_⟩
  · rw [crash_append, show p = (p.1, p.2) from rfl, put_mid _ hA]
    simp [crash, hk]
  · rw [crash_append, show p = (p.1, p.2) from rfl, del_mid hA h4]
    simp [crash, hk]
end Go.Proofs.YtmimkgfkicgfiaaDoor.Dp
