/-
  Plain Lean: how often a tag stands in a page's document, and where each entry stands.
-/
import Derived.Test.YtmimkgfkicgfiaaDoorXmlPlain
namespace Go.Proofs.YtmimkgfkicgfiaaDoor.Xt
open Go.Proofs.YtmimkgfkicgfiaaDoor.Xp

/-- how often p stands in s -/
def cnt (p : List UInt8) : List UInt8 → Nat
  | [] => 0
  | x :: t => (if p.isPrefixOf (x :: t) then 1 else 0) + cnt p t
theorem cnt_short {p : List UInt8} : ∀ {s : List UInt8}, s.length < p.length → cnt p s = 0
  | [], _ => rfl
  | x :: t, h => by
    simp only [cnt]
    rw [cnt_short (s := t) (by simp at h; omega)]
    have : p.isPrefixOf (x :: t) = false := by
      rw [Bool.eq_false_iff]
      intro hp
      have := (List.isPrefixOf_iff_prefix.1 hp).length_le
      omega
    rw [this]; rfl
theorem cnt_text {q r : List UInt8} : ∀ {c : List UInt8}, (∀ x ∈ c, x ≠ 60) → cnt (60 :: q) (c ++ r) = cnt (60 :: q) r
  | [], _ => rfl
  | x :: t, h => by
    have hx := h x List.mem_cons_self
    simp only [List.cons_append, cnt]
    rw [cnt_text fun y hy => h y (List.mem_cons_of_mem _ hy)]
    have : (60 :: q).isPrefixOf (x :: (t ++ r)) = false := by simp [List.isPrefixOf, Ne.symm hx]
    rw [this]
    simp
/-- a stretch that holds p n times, whatever stands behind it -/
def Seg (p : List UInt8) (X : List UInt8) (n : Nat) : Prop := ∀ r, cnt p (X ++ r) = n + cnt p r
theorem Seg.nil (p : List UInt8) : Seg p [] 0 := fun r => by simp
theorem Seg.append {p X Y : List UInt8} {n m : Nat} (h : Seg p X n) (k : Seg p Y m) : Seg p (X ++ Y) (n + m) := fun r => by
  rw [List.append_assoc, h, k]; omega
theorem Seg.text {q X : List UInt8} (h : ∀ x ∈ X, x ≠ 60) : Seg (60 :: q) X 0 := fun r => by rw [cnt_text h]; omega
theorem Seg.open_ {q c : List UInt8} {n : Nat} (h : ∀ x ∈ c, x ≠ 60) (hn : ∀ r, (if q.isPrefixOf (c ++ r) then 1 else 0) = n) : Seg (60 :: q) (60 :: c) n := fun r => by
  simp only [List.cons_append, cnt]
  rw [cnt_text h]
  have : (60 :: q).isPrefixOf (60 :: (c ++ r)) = q.isPrefixOf (c ++ r) := by simp [List.isPrefixOf]
  rw [this, hn]
theorem Seg.tag {q nm X : List UInt8} {n m : Nat} (h : ∀ x ∈ nm, x ≠ 60) (h1 : ∀ r, (if q.isPrefixOf (nm ++ (62 :: r)) then 1 else 0) = n) (h2 : ∀ r, q.isPrefixOf (47 :: r) = false) (hX : Seg (60 :: q) X m) : Seg (60 :: q) (Xp.tag nm X) (n + m) := by
  have e : Xp.tag nm X = (60 :: (nm ++ [62])) ++ (X ++ (60 :: (47 :: (nm ++ [62])))) := by simp [Xp.tag]
  rw [e]
  have a := Seg.open_ (q := q) (c := nm ++ [62]) (n := n) (by
    intro x hx
    rcases List.mem_append.1 hx with hx | hx
    · exact h x hx
    · simp at hx; subst hx; decide) (fun r => by rw [List.append_assoc]; exact h1 r)
  have b := Seg.open_ (q := q) (c := 47 :: (nm ++ [62])) (n := 0) (by
    intro x hx
    rcases List.mem_cons.1 hx with rfl | hx
    · decide
    · rcases List.mem_append.1 hx with hx | hx
      · exact h x hx
      · simp at hx; subst hx; decide) (fun r => by rw [List.cons_append, h2]; rfl)
  have := a.append (hX.append b)
  rwa [Nat.add_zero] at this
theorem Seg.list {p : List UInt8} {α : Type} (f : α → List UInt8) (n : α → Nat) : ∀ (l : List α), (∀ x ∈ l, Seg p (f x) (n x)) → Seg p ((l.map f).flatten) ((l.map n).sum)
  | [], _ => Seg.nil p
  | x :: l, h => by
    simp only [List.map_cons, List.flatten_cons, List.sum_cons]
    exact (h x List.mem_cons_self).append (Seg.list f n l fun y hy => h y (List.mem_cons_of_mem _ hy))

/-- what is looked for: the second half of '<Name>' and of '<Next>' -/
def qName : List UInt8 := [78, 97, 109, 101, 62]
def qNext : List UInt8 := [78, 101, 120, 116, 62]
theorem esc_no60 (l : List UInt8) : ∀ x ∈ esc l, x ≠ 60 := fun x hx => (esc_clean l x hx).1

section
variable (num : Int → List UInt8) (hnum : ∀ n, ∀ x ∈ num n, x ≠ 60)
include hnum
theorem seg_ent_name (e : Ent) : Seg (60 :: qName) (entDoc num e) 1 := by
  unfold entDoc
  split
  · exact Seg.tag (n := 0) (m := 1) (by decide) (fun r => by simp [tPrefix, qName, List.isPrefixOf]) (fun r => by simp [qName, List.isPrefixOf])
      (Seg.tag (n := 1) (m := 0) (by decide) (fun r => by simp [tName, qName, List.isPrefixOf]) (fun r => by simp [qName, List.isPrefixOf]) (Seg.text (esc_no60 _)))
  · refine Seg.tag (n := 0) (m := 1 + (0 + (0 + 0))) (by decide) (fun r => by simp [tKey, qName, List.isPrefixOf]) (fun r => by simp [qName, List.isPrefixOf]) ?_
    refine (Seg.tag (n := 1) (m := 0) (by decide) (fun r => by simp [tName, qName, List.isPrefixOf]) (fun r => by simp [qName, List.isPrefixOf]) (Seg.text (esc_no60 _))).append ?_
    refine (Seg.tag (n := 0) (m := 0) (by decide) (fun r => by simp [tSize, qName, List.isPrefixOf]) (fun r => by simp [qName, List.isPrefixOf]) (Seg.text (hnum _))).append ?_
    refine (Seg.tag (n := 0) (m := 0) (by decide) (fun r => by simp [tEtag, qName, List.isPrefixOf]) (fun r => by simp [qName, List.isPrefixOf]) (Seg.text (esc_no60 _))).append ?_
    exact Seg.tag (n := 0) (m := 0) (by decide) (fun r => by simp [tTime, qName, List.isPrefixOf]) (fun r => by simp [qName, List.isPrefixOf]) (Seg.text (hnum _))
theorem seg_ent_next (e : Ent) : Seg (60 :: qNext) (entDoc num e) 0 := by
  unfold entDoc
  split
  · exact Seg.tag (n := 0) (m := 0) (by decide) (fun r => by simp [tPrefix, qNext, List.isPrefixOf]) (fun r => by simp [qNext, List.isPrefixOf])
      (Seg.tag (n := 0) (m := 0) (by decide) (fun r => by simp [tName, qNext, List.isPrefixOf]) (fun r => by simp [qNext, List.isPrefixOf]) (Seg.text (esc_no60 _)))
  · refine Seg.tag (n := 0) (m := 0 + (0 + (0 + 0))) (by decide) (fun r => by simp [tKey, qNext, List.isPrefixOf]) (fun r => by simp [qNext, List.isPrefixOf]) ?_
    refine (Seg.tag (n := 0) (m := 0) (by decide) (fun r => by simp [tName, qNext, List.isPrefixOf]) (fun r => by simp [qNext, List.isPrefixOf]) (Seg.text (esc_no60 _))).append ?_
    refine (Seg.tag (n := 0) (m := 0) (by decide) (fun r => by simp [tSize, qNext, List.isPrefixOf]) (fun r => by simp [qNext, List.isPrefixOf]) (Seg.text (hnum _))).append ?_
    refine (Seg.tag (n := 0) (m := 0) (by decide) (fun r => by simp [tEtag, qNext, List.isPrefixOf]) (fun r => by simp [qNext, List.isPrefixOf]) (Seg.text (esc_no60 _))).append ?_
    exact Seg.tag (n := 0) (m := 0) (by decide) (fun r => by simp [tTime, qNext, List.isPrefixOf]) (fun r => by simp [qNext, List.isPrefixOf]) (Seg.text (hnum _))
omit hnum in
theorem seg_top {q : List UInt8} (h : ∀ r, q.isPrefixOf (63 :: r) = false) : Seg (60 :: q) top 0 :=
  Seg.open_ (c := top.tail) (by decide) (fun r => by show (if q.isPrefixOf (63 :: _) then 1 else 0) = 0; rw [h]; rfl)
omit hnum in
theorem sum_one {α : Type} (l : List α) : (l.map fun _ => 1).sum = l.length := by
  induction l with
  | nil => rfl
  | cons x l ih => simp only [List.map_cons, List.sum_cons, ih, List.length_cons]; omega
omit hnum in
theorem sum_zero {α : Type} (l : List α) : (l.map fun _ => 0).sum = 0 := by
  induction l with
  | nil => rfl
  | cons x l ih => simp only [List.map_cons, List.sum_cons, ih]
theorem count_name (bucket : List UInt8) (es : List Ent) (next : List UInt8) : cnt (60 :: qName) (docList num bucket es next) = es.length := by
  have h : Seg (60 :: qName) (docList num bucket es next) (0 + (0 + (0 + 0 + ((es.map fun _ => 1).sum + 0)))) := by
    refine (seg_top (fun r => by simp [qName, List.isPrefixOf])).append ?_
    refine Seg.tag (n := 0) (by decide) (fun r => by simp [tList, qName, List.isPrefixOf]) (fun r => by simp [qName, List.isPrefixOf]) ?_
    refine (Seg.tag (n := 0) (m := 0) (by decide) (fun r => by simp [tBucket, qName, List.isPrefixOf]) (fun r => by simp [qName, List.isPrefixOf]) (Seg.text (esc_no60 _))).append ?_
    refine (Seg.list _ (fun _ => 1) es (fun e _ => seg_ent_name num hnum e)).append ?_
    split
    · exact Seg.nil _
    · exact Seg.tag (n := 0) (m := 0) (by decide) (fun r => by simp [tNext, qName, List.isPrefixOf]) (fun r => by simp [qName, List.isPrefixOf]) (Seg.text (esc_no60 _))
  have := h []
  rw [List.append_nil, sum_one] at this
  simpa [cnt] using this
theorem count_next (bucket : List UInt8) (es : List Ent) (next : List UInt8) : cnt (60 :: qNext) (docList num bucket es next) = if next = [] then 0 else 1 := by
  have h : Seg (60 :: qNext) (docList num bucket es next) (0 + (0 + (0 + 0 + ((es.map fun _ => 0).sum + if next = [] then 0 else 1)))) := by
    refine (seg_top (fun r => by simp [qNext, List.isPrefixOf])).append ?_
    refine Seg.tag (n := 0) (by decide) (fun r => by simp [tList, qNext, List.isPrefixOf]) (fun r => by simp [qNext, List.isPrefixOf]) ?_
    refine (Seg.tag (n := 0) (m := 0) (by decide) (fun r => by simp [tBucket, qNext, List.isPrefixOf]) (fun r => by simp [qNext, List.isPrefixOf]) (Seg.text (esc_no60 _))).append ?_
    refine (Seg.list _ (fun _ => 0) es (fun e _ => seg_ent_next num hnum e)).append ?_
    split
    · exact Seg.nil _
    · exact Seg.tag (n := 1) (m := 0) (by decide) (fun r => by simp [tNext, qNext, List.isPrefixOf]) (fun r => by simp [qNext, List.isPrefixOf]) (Seg.text (esc_no60 _))
  have := h []
  rw [List.append_nil, sum_zero] at this
  simpa [cnt] using this
end

/-- what the law looks for at an entry -/
def want (e : Ent) : List UInt8 := (if e.pre then [60, 80, 114, 101, 102, 105, 120, 62, 60, 78, 97, 109, 101, 62] else [60, 75, 101, 121, 62, 60, 78, 97, 109, 101, 62]) ++ (esc e.name ++ [60, 47, 78, 97, 109, 101, 62])
theorem want_prefix (num : Int → List UInt8) (e : Ent) : ∃ t, entDoc num e = want e ++ t := by
  unfold entDoc want
  split
  · exact ⟨[60, 47] ++ tPrefix ++ [62], by simp [tag, tPrefix, tName]⟩
  · exact ⟨(tag tSize (num e.size) ++ (tag tEtag (esc e.etag) ++ tag tTime (num e.time))) ++ [60, 47] ++ tKey ++ [62], by simp [tag, entKey, tKey, tName]⟩
/-- where entry k begins -/
def pos (num : Int → List UInt8) (bucket : List UInt8) (es : List Ent) (k : Nat) : Nat :=
  (top ++ ([60] ++ tList ++ [62] ++ tag tBucket (esc bucket))).length + (((es.take k).map (entDoc num)).flatten).length
theorem pos_step {num : Int → List UInt8} {bucket : List UInt8} {es : List Ent} {k : Nat} {e : Ent} (h : es[k]? = some e) : pos num bucket es (k + 1) = pos num bucket es k + (entDoc num e).length := by
  unfold pos
  rw [List.take_add_one, h]
  simp only [Option.toList, List.map_append, List.flatten_append, List.length_append, List.map_cons, List.map_nil, List.flatten_cons, List.flatten_nil, List.length_nil]
  omega
theorem pos_want {num : Int → List UInt8} {bucket next : List UInt8} {es : List Ent} {k : Nat} {e : Ent} (h : es[k]? = some e) :
    ∃ r, (docList num bucket es next).drop (pos num bucket es k) = want e ++ r := by
  obtain ⟨t, ht⟩ := want_prefix num e
  have hk : k < es.length := (List.getElem?_eq_some_iff.1 h).1
  have hes : es = es.take k ++ (e :: es.drop (k + 1)) := by
    rw [List.getElem?_eq_some_iff] at h
    obtain ⟨_, h⟩ := h
    rw [← h, ← List.drop_eq_getElem_cons hk, List.take_append_drop]
  have hd : docList num bucket es next = ((top ++ ([60] ++ tList ++ [62] ++ tag tBucket (esc bucket))) ++ ((es.take k).map (entDoc num)).flatten) ++ (entDoc num e ++ (((es.drop (k + 1)).map (entDoc num)).flatten ++ ((if next = [] then [] else tag tNext (esc next)) ++ [60, 47] ++ tList ++ [62]))) := by
    conv => lhs; rw [hes]
    simp [docList, listBody, tag]
  refine ⟨t ++ (((es.drop (k + 1)).map (entDoc num)).flatten ++ ((if next = [] then [] else tag tNext (esc next)) ++ [60, 47] ++ tList ++ [62])), ?_⟩
  have hp : pos num bucket es k = ((top ++ ([60] ++ tList ++ [62] ++ tag tBucket (esc bucket))) ++ ((es.take k).map (entDoc num)).flatten).length := by rw [pos, ← List.length_append]
  rw [hd, hp, List.drop_left, ht, List.append_assoc]
/-- at entry k the wanted text stands, and the next entry begins behind it -/
theorem match_at {num : Int → List UInt8} {bucket next : List UInt8} {es : List Ent} {k : Nat} {e : Ent} (h : es[k]? = some e) :
    pos num bucket es k + (want e).length ≤ (docList num bucket es next).length ∧
    ((docList num bucket es next).take (pos num bucket es k + (want e).length)).drop (pos num bucket es k) = want e ∧
    pos num bucket es k + (want e).length ≤ pos num bucket es (k + 1) := by
  obtain ⟨r, hr⟩ := pos_want (next := next) (num := num) (bucket := bucket) h
  obtain ⟨t, ht⟩ := want_prefix num e
  have hl := congrArg List.length hr
  rw [List.length_drop, List.length_append] at hl
  have hw : 1 ≤ (want e).length := by unfold want; split <;> simp
  refine ⟨by omega, ?_, ?_⟩
  · rw [List.drop_take, Nat.add_sub_cancel_left, hr, List.take_left]
  · rw [pos_step h, ht, List.length_append]; omega
theorem cnt_step {p s : List UInt8} {i : Nat} (h : i < s.length) : cnt p (s.drop i) = (if p.isPrefixOf (s.drop i) then 1 else 0) + cnt p (s.drop (i + 1)) := by
  rw [List.drop_eq_getElem_cons h]
  rfl
theorem pre_iff {p s : List UInt8} {i : Nat} (hp : p.length = 6) : p.isPrefixOf (s.drop i) = ((s.take (i + 6)).drop i == p) := by
  have e : (s.take (i + 6)).drop i = (s.drop i).take 6 := by rw [List.drop_take, Nat.add_sub_cancel_left]
  rw [e, Bool.eq_iff_iff, List.isPrefixOf_iff_prefix, List.prefix_iff_eq_take, hp, beq_iff_eq]
  exact eq_comm
end Go.Proofs.YtmimkgfkicgfiaaDoor.Xt
