/-
  Plain Lean: the documents of buckets, of an upload, of an etag.
-/
import Derived.Test.YtmimkgfkicgfiaaDoorDec
namespace Go.Proofs.YtmimkgfkicgfiaaDoor.Xd
open Go

structure Bk where
  name : List UInt8
  time : Int
  days : Int
structure Pt where
  number : Int
  size : Int
  etag : List UInt8
def tDays : List UInt8 := [68, 97, 121, 115]
def tBuckets : List UInt8 := [66, 117, 99, 107, 101, 116, 115]
def tPart : List UInt8 := [80, 97, 114, 116]
def tNumber : List UInt8 := [78, 117, 109, 98, 101, 114]
def tUpload : List UInt8 := [85, 112, 108, 111, 97, 100]
def tId : List UInt8 := [73, 100]
def bkBody (b : Bk) : List UInt8 := Xp.tag Xp.tName (Xp.esc b.name) ++ (Xp.tag Xp.tTime (Lib.itoa b.time) ++ Xp.tag tDays (Lib.itoa b.days))
def bkDoc (b : Bk) : List UInt8 := Xp.tag Xp.tBucket (bkBody b)
def docBuckets (bs : List Bk) : List UInt8 := Xp.top ++ Xp.tag tBuckets (bs.map bkDoc).flatten
def ptBody (p : Pt) : List UInt8 := Xp.tag tNumber (Lib.itoa p.number) ++ (Xp.tag Xp.tSize (Lib.itoa p.size) ++ Xp.tag Xp.tEtag (Xp.esc p.etag))
def ptDoc (p : Pt) : List UInt8 := Xp.tag tPart (ptBody p)
def idText (a b c : Int) : List UInt8 := Lib.itoa a ++ ([45] ++ (Lib.itoa b ++ ([45] ++ Lib.itoa c)))
def upBody (key id : List UInt8) (ps : List Pt) : List UInt8 := Xp.tag Xp.tKey (Xp.esc key) ++ (Xp.tag tId id ++ (ps.map ptDoc).flatten)
def docUpload (key id : List UInt8) (ps : List Pt) : List UInt8 := Xp.top ++ Xp.tag tUpload (upBody key id ps)
def docEtag (s : List UInt8) : List UInt8 := Xp.top ++ Xp.tag Xp.tEtag (Xp.esc s)

def I64 (n : Int) : Prop := -9223372036854775808 ≤ n ∧ n ≤ 9223372036854775807
theorem I64.len {n : Int} (h : I64 n) : (Lib.itoa n).length ≤ 21 := Dec.itoa_len h.1 h.2
def BkFits (b : Bk) : Prop := b.name.length ≤ 1048576 ∧ I64 b.time ∧ I64 b.days
def PtFits (p : Pt) : Prop := p.etag.length ≤ 1048576 ∧ I64 p.number ∧ I64 p.size
theorem bk_len {b : Bk} (h : BkFits b) : (bkDoc b).length ≤ 12583300 := by
  have h1 := Xp.esc_len b.name
  have h2 := h.2.1.len
  have h3 := h.2.2.len
  have h4 := h.1
  simp only [bkDoc, bkBody, Xp.tag_len, Xp.tBucket, Xp.tName, Xp.tTime, tDays, List.length_append, List.length_cons, List.length_nil]; omega
theorem pt_len {p : Pt} (h : PtFits p) : (ptDoc p).length ≤ 12583300 := by
  have h1 := Xp.esc_len p.etag
  have h2 := h.2.1.len
  have h3 := h.2.2.len
  have h4 := h.1
  simp only [ptDoc, ptBody, Xp.tag_len, tPart, tNumber, Xp.tSize, Xp.tEtag, List.length_append, List.length_cons, List.length_nil]; omega
theorem bks_len : ∀ {bs : List Bk}, (∀ b ∈ bs, BkFits b) → ((bs.map bkDoc).flatten).length ≤ bs.length * 12583300
  | [], _ => by simp
  | b :: bs, h => by
    have h1 := bk_len (h b List.mem_cons_self)
    have h2 := bks_len (bs := bs) (fun x hx => h x (List.mem_cons_of_mem _ hx))
    simp only [List.map_cons, List.flatten_cons, List.length_append, List.length_cons]
    omega
theorem pts_len : ∀ {ps : List Pt}, (∀ p ∈ ps, PtFits p) → ((ps.map ptDoc).flatten).length ≤ ps.length * 12583300
  | [], _ => by simp
  | p :: ps, h => by
    have h1 := pt_len (h p List.mem_cons_self)
    have h2 := pts_len (ps := ps) (fun x hx => h x (List.mem_cons_of_mem _ hx))
    simp only [List.map_cons, List.flatten_cons, List.length_append, List.length_cons]
    omega
theorem id_len {a b c : Int} (ha : I64 a) (hb : I64 b) (hc : I64 c) : (idText a b c).length ≤ 100 := by
  have h1 := ha.len
  have h2 := hb.len
  have h3 := hc.len
  simp only [idText, List.length_append, List.length_cons, List.length_nil]; omega
theorem esc_id (a b c : Int) : Xp.esc (idText a b c) = idText a b c := by
  refine Dec.esc_plain fun x hx => ?_
  simp only [idText, List.mem_append, List.mem_singleton] at hx
  rcases hx with h | rfl | h | rfl | h
  · exact Dec.itoa_byte x h
  · exact .inl rfl
  · exact Dec.itoa_byte x h
  · exact .inl rfl
  · exact Dec.itoa_byte x h
theorem upBody_len {key : List UInt8} {a b c : Int} {ps : List Pt} (hk : key.length ≤ 1048576) (ha : I64 a) (hb : I64 b) (hc : I64 c) (hn : ps.length ≤ 1048576) (hf : ∀ p ∈ ps, PtFits p) : (upBody key (idText a b c) ps).length ≤ 20000000000000 := by
  have h1 := Xp.esc_len key
  have h2 := id_len ha hb hc
  have h3 := pts_len hf
  simp only [upBody, Xp.tag_len, Xp.tKey, tId, List.length_append, List.length_cons, List.length_nil]
  omega
end Go.Proofs.YtmimkgfkicgfiaaDoor.Xd
