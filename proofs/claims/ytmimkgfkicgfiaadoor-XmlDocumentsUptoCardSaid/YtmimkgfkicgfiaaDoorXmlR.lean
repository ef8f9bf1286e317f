/-
  The walk of the law XmlDocuments.
-/
import Derived.Test.YtmimkgfkicgfiaaDoorXmlQ
namespace Go.Proofs.YtmimkgfkicgfiaaDoor.XmlR
open Go.RowKit Go.Proofs.YtmimkgfkicgfiaaDoor

def H9 (g : Nat) (a0 a1 b0 b1 c0 c1 c2 c3 c4 : Value) (w : World) : Prop :=
  w.cell? ⟨g, 0, none⟩ = some a0 ∧ w.cell? ⟨g, 1, none⟩ = some a1 ∧ w.cell? ⟨g + 1, 0, none⟩ = some b0 ∧ w.cell? ⟨g + 1, 1, none⟩ = some b1 ∧
  w.cell? ⟨g + 1 + 1, 0, none⟩ = some c0 ∧ w.cell? ⟨g + 1 + 1, 1, none⟩ = some c1 ∧ w.cell? ⟨g + 1 + 1, 2, none⟩ = some c2 ∧ w.cell? ⟨g + 1 + 1, 3, none⟩ = some c3 ∧ w.cell? ⟨g + 1 + 1, 4, none⟩ = some c4
theorem H9.below {g : Nat} {a0 a1 b0 b1 c0 c1 c2 c3 c4 : Value} {w w' : World} (h : H9 g a0 a1 b0 b1 c0 c1 c2 c3 c4 w) (hb : Below w.heap.size w w') : H9 g a0 a1 b0 b1 c0 c1 c2 c3 c4 w' := by
  obtain ⟨h0, h1, h2, h3, h4, h5, h6, h7, h8⟩ := h
  have hg := World.block_lt_of_cell? w _ h0
  have hg1 := World.block_lt_of_cell? w _ h2
  have hg2 := World.block_lt_of_cell? w _ h4
  exact ⟨(hb.cell (p := ⟨g, 0, none⟩) hg).trans h0, (hb.cell (p := ⟨g, 1, none⟩) hg).trans h1, (hb.cell (p := ⟨g + 1, 0, none⟩) hg1).trans h2, (hb.cell (p := ⟨g + 1, 1, none⟩) hg1).trans h3,
    (hb.cell (p := ⟨g + 1 + 1, 0, none⟩) hg2).trans h4, (hb.cell (p := ⟨g + 1 + 1, 1, none⟩) hg2).trans h5, (hb.cell (p := ⟨g + 1 + 1, 2, none⟩) hg2).trans h6, (hb.cell (p := ⟨g + 1 + 1, 3, none⟩) hg2).trans h7, (hb.cell (p := ⟨g + 1 + 1, 4, none⟩) hg2).trans h8⟩
theorem boxes (w : World) (a0 a1 b0 b1 c0 c1 c2 c3 c4 : Value) (t0 t1 t2 : TypeId) : H9 w.heap.size a0 a1 b0 b1 c0 c1 c2 c3 c4 (((w.alloc (.cells #[a0, a1] t0)).alloc (.cells #[b0, b1] t1)).alloc (.cells #[c0, c1, c2, c3, c4] t2)) := by
  have new : ∀ (W : World) (cs : Array Value) (t : TypeId) (n i : Nat) (v : Value), n = W.heap.size → cs[i]? = some v → (W.alloc (.cells cs t)).cell? ⟨n, i, none⟩ = some v := by
    intro W cs t n i v hn hv
    subst hn
    simp [hv]
  have up : ∀ (W : World) (o : Obj) (n i : Nat) (v : Value), n < W.heap.size → W.cell? ⟨n, i, none⟩ = some v → (W.alloc o).cell? ⟨n, i, none⟩ = some v := fun W o n i v hn hv => (World.cell?_alloc_lt W o _ hn).trans hv
  have e1 : (w.alloc (.cells #[a0, a1] t0)).heap.size = w.heap.size + 1 := by simp
  have e2 : ((w.alloc (.cells #[a0, a1] t0)).alloc (.cells #[b0, b1] t1)).heap.size = w.heap.size + 1 + 1 := by simp
  refine ⟨?_, ?_, ?_, ?_, ?_, ?_, ?_, ?_, ?_⟩
  · exact up _ _ _ _ _ (by omega) (up _ _ _ _ _ (by omega) (new _ _ _ _ _ _ rfl rfl))
  · exact up _ _ _ _ _ (by omega) (up _ _ _ _ _ (by omega) (new _ _ _ _ _ _ rfl rfl))
  · exact up _ _ _ _ _ (by omega) (new _ _ _ _ _ _ e1.symm rfl)
  · exact up _ _ _ _ _ (by omega) (new _ _ _ _ _ _ e1.symm rfl)
  · exact new _ _ _ _ _ _ e2.symm rfl
  · exact new _ _ _ _ _ _ e2.symm rfl
  · exact new _ _ _ _ _ _ e2.symm rfl
  · exact new _ _ _ _ _ _ e2.symm rfl
  · exact new _ _ _ _ _ _ e2.symm rfl
theorem lift {w0 : World} {g : Nat} {a0 a1 b0 b1 c0 c1 c2 c3 c4 : Value} {w : World} {f : FuncId} {args : Array Value} {v : Value} (ht : XmlI.Carry w0 w) (h : H9 g a0 a1 b0 b1 c0 c1 c2 c3 c4 w) (hc : Calls Tryd.prog f args w fun e w' => e = .returned v ∧ Below w.heap.size w w') :
    Calls Tryd.prog f args w fun e w' => e = .returned v ∧ (w'.cell? ⟨g, 0, none⟩ = some a0 ∧ w'.cell? ⟨g, 1, none⟩ = some a1 ∧ w'.cell? ⟨g + 1, 0, none⟩ = some b0 ∧ w'.cell? ⟨g + 1, 1, none⟩ = some b1 ∧
      w'.cell? ⟨g + 1 + 1, 0, none⟩ = some c0 ∧ w'.cell? ⟨g + 1 + 1, 1, none⟩ = some c1 ∧ w'.cell? ⟨g + 1 + 1, 2, none⟩ = some c2 ∧ w'.cell? ⟨g + 1 + 1, 3, none⟩ = some c3 ∧ w'.cell? ⟨g + 1 + 1, 4, none⟩ = some c4) ∧ XmlI.Carry w0 w' :=
  hc.mono fun _ _ ⟨he, hb⟩ => ⟨he, H9.below h hb, ht.below hb⟩
theorem still {f : FuncId} {args : Array Value} {v : Value} {w : World} (hc : Calls Tryd.prog f args w fun e w' => e = .returned v ∧ w = w') : Calls Tryd.prog f args w fun e w' => e = .returned v ∧ Below w.heap.size w w' :=
  hc.mono fun _ _ ⟨he, hb⟩ => ⟨he, hb ▸ Below.refl _ _⟩

set_option maxHeartbeats 4000000 in
set_option maxRecDepth 100000 in
theorem documents (ba fa ea A : Option Addr) (bc fl fc ec cap : Nat) (bs : List Xd.Bk) (es : List Xp.Ent) (next key : ByteArray) (a b c : Int) (ps : List Xd.Pt) (w : World)
    (hbl : bs.length ≤ 1048576) (hbf : ∀ x ∈ bs, Xd.BkFits x) (hbs : XmlM.Bks w ba bs)
    (hel : es.length ≤ 1048576) (hef : XmlI.Fits es) (hes : XmlI.Ents w ea es) (hnx : next.size ≤ 1048576)
    (ha : Xd.I64 a) (hb : Xd.I64 b) (hc : Xd.I64 c) (hk : key.size ≤ 1048576) (hpl : ps.length ≤ 1048576) (hpf : ∀ p ∈ ps, Xd.PtFits p) (hps : XmlP.Pts w A ps) (ht : XmlH.Tab w) :
    Calls Tryd.prog 6 #[.agg #[.slice ba bs.length bc, .slice fa fl fc], .agg #[.slice ea es.length ec, .string next], .agg #[.int .i64 a, .int .i64 b, .int .i64 c, .string key, .slice A ps.length cap]] w
      fun e w' => e = .returned (.bool true) ∧ Below w.heap.size w w' := by
  go_enter Tryd.func6, Tryd.ntmps6
  go_wp2_with fail
  have HC : XmlI.Carry w (((w.alloc (.cells #[.slice ba bs.length bc, .slice fa fl fc] 49)).alloc (.cells #[.slice ea es.length ec, .string next] 40)).alloc (.cells #[.int .i64 a, .int .i64 b, .int .i64 c, .string key, .slice A ps.length cap] 54)) := XmlI.Carry.alloc (XmlI.Carry.alloc (XmlI.Carry.alloc ⟨ht, Below.refl _ _⟩ _) _) _
  have HH := boxes w (.slice ba bs.length bc) (.slice fa fl fc) (.slice ea es.length ec) (.string next) (.int .i64 a) (.int .i64 b) (.int .i64 c) (.string key) (.slice A ps.length cap) 49 40 54
  refine (lift HC HH (XmlC.alive _)).mono ?_
  rintro e w1 ⟨rfl, k1, t1⟩
  clear HC HH
  obtain ⟨q0, q1, q2, q3, q4, q5, q6, q7, q8⟩ := k1
  go_wp2_with fail
  go_region_held3 (fun w' => w'.cell? ⟨w.heap.size, 0, none⟩ = some (.slice ba bs.length bc) ∧ w'.cell? ⟨w.heap.size, 1, none⟩ = some (.slice fa fl fc) ∧ w'.cell? ⟨w.heap.size + 1, 0, none⟩ = some (.slice ea es.length ec) ∧ w'.cell? ⟨w.heap.size + 1, 1, none⟩ = some (.string next) ∧ w'.cell? ⟨w.heap.size + 1 + 1, 0, none⟩ = some (.int .i64 a) ∧ w'.cell? ⟨w.heap.size + 1 + 1, 1, none⟩ = some (.int .i64 b) ∧ w'.cell? ⟨w.heap.size + 1 + 1, 2, none⟩ = some (.int .i64 c) ∧ w'.cell? ⟨w.heap.size + 1 + 1, 3, none⟩ = some (.string key) ∧ w'.cell? ⟨w.heap.size + 1 + 1, 4, none⟩ = some (.slice A ps.length cap))
    (first | go_keep)
    (first
      | (go_at_call 24; refine (lift (w0 := w) (g := w.heap.size) (a0 := .slice ba bs.length bc) (a1 := .slice fa fl fc) (b0 := .slice ea es.length ec) (b1 := .string next) (c0 := .int .i64 a) (c1 := .int .i64 b) (c2 := .int .i64 c) (c3 := .string key) (c4 := .slice A ps.length cap) ?_ ?_ (XmlM.buckets ba bc bs fa fl fc _ hbl hbf ?_ ?_)).mono ?_; (first | exact t0 | exact t1.drew | exact t1); (unfold H9; simp [*]); (first | exact t0.1 | exact t1.drew.1 | exact t1.1); (first | exact hbs.below t0.2 | exact hbs.below t1.drew.2 | exact hbs.below t1.2); rintro e w' ⟨rfl, k0, t0⟩)
      | (go_at_call 25; refine (lift (w0 := w) (g := w.heap.size) (a0 := .slice ba bs.length bc) (a1 := .slice fa fl fc) (b0 := .slice ea es.length ec) (b1 := .string next) (c0 := .int .i64 a) (c1 := .int .i64 b) (c2 := .int .i64 c) (c3 := .string key) (c4 := .slice A ps.length cap) ?_ ?_ (XmlN.refBuckets ba bc bs fa fl fc _ hbl hbf ?_ ?_)).mono ?_; (first | exact t0 | exact t1.drew | exact t1); (unfold H9; simp [*]); (first | exact t0.1 | exact t1.drew.1 | exact t1.1); (first | exact hbs.below t0.2 | exact hbs.below t1.drew.2 | exact hbs.below t1.2); rintro e w' ⟨rfl, k0, t0⟩)
      | (go_at_call 22; refine (lift (w0 := w) (g := w.heap.size) (a0 := .slice ba bs.length bc) (a1 := .slice fa fl fc) (b0 := .slice ea es.length ec) (b1 := .string next) (c0 := .int .i64 a) (c1 := .int .i64 b) (c2 := .int .i64 c) (c3 := .string key) (c4 := .slice A ps.length cap) ?_ ?_ (XmlI.list key next ea ec es _ hk hnx hel hef ?_ ?_)).mono ?_; (first | exact t0 | exact t1.drew | exact t1); (unfold H9; simp [*]); (first | exact t0.1 | exact t1.drew.1 | exact t1.1); (first | exact hes.below t0.2 | exact hes.below t1.drew.2 | exact hes.below t1.2); rintro e w' ⟨rfl, k0, t0⟩)
      | (go_at_call 26; refine (lift (w0 := w) (g := w.heap.size) (a0 := .slice ba bs.length bc) (a1 := .slice fa fl fc) (b0 := .slice ea es.length ec) (b1 := .string next) (c0 := .int .i64 a) (c1 := .int .i64 b) (c2 := .int .i64 c) (c3 := .string key) (c4 := .slice A ps.length cap) ?_ ?_ (XmlO.refList key next ea ec es _ hk hnx hel hef ?_ ?_)).mono ?_; (first | exact t0 | exact t1.drew | exact t1); (unfold H9; simp [*]); (first | exact t0.1 | exact t1.drew.1 | exact t1.1); (first | exact hes.below t0.2 | exact hes.below t1.drew.2 | exact hes.below t1.2); rintro e w' ⟨rfl, k0, t0⟩)
      | (go_at_call 27; refine (lift (w0 := w) (g := w.heap.size) (a0 := .slice ba bs.length bc) (a1 := .slice fa fl fc) (b0 := .slice ea es.length ec) (b1 := .string next) (c0 := .int .i64 a) (c1 := .int .i64 b) (c2 := .int .i64 c) (c3 := .string key) (c4 := .slice A ps.length cap) ?_ ?_ (XmlP.upload a b c key A cap ps _ ha hb hc hk hpl hpf ?_ ?_)).mono ?_; (first | exact t0 | exact t1.drew | exact t1); (unfold H9; simp [*]); (first | exact t0.1 | exact t1.drew.1 | exact t1.1); (first | exact hps.below t0.2 | exact hps.below t1.drew.2 | exact hps.below t1.2); rintro e w' ⟨rfl, k0, t0⟩)
      | (go_at_call 28; refine (lift (w0 := w) (g := w.heap.size) (a0 := .slice ba bs.length bc) (a1 := .slice fa fl fc) (b0 := .slice ea es.length ec) (b1 := .string next) (c0 := .int .i64 a) (c1 := .int .i64 b) (c2 := .int .i64 c) (c3 := .string key) (c4 := .slice A ps.length cap) ?_ ?_ (XmlQ.refUpload a b c key A cap ps _ ha hb hc hk hpl hpf ?_ ?_)).mono ?_; (first | exact t0 | exact t1.drew | exact t1); (unfold H9; simp [*]); (first | exact t0.1 | exact t1.drew.1 | exact t1.1); (first | exact hps.below t0.2 | exact hps.below t1.drew.2 | exact hps.below t1.2); rintro e w' ⟨rfl, k0, t0⟩)
      | (go_at_call 29; refine (lift (w0 := w) (g := w.heap.size) (a0 := .slice ba bs.length bc) (a1 := .slice fa fl fc) (b0 := .slice ea es.length ec) (b1 := .string next) (c0 := .int .i64 a) (c1 := .int .i64 b) (c2 := .int .i64 c) (c3 := .string key) (c4 := .slice A ps.length cap) ?_ ?_ (XmlL.etag key _ hk)).mono ?_; (first | exact t0 | exact t1.drew | exact t1); (unfold H9; simp [*]); rintro e w' ⟨rfl, k0, t0⟩)
      | (go_at_call 30; refine (lift (w0 := w) (g := w.heap.size) (a0 := .slice ba bs.length bc) (a1 := .slice fa fl fc) (b0 := .slice ea es.length ec) (b1 := .string next) (c0 := .int .i64 a) (c1 := .int .i64 b) (c2 := .int .i64 c) (c3 := .string key) (c4 := .slice A ps.length cap) ?_ ?_ (still (XmlL.refEtag key _ hk))).mono ?_; (first | exact t0 | exact t1.drew | exact t1); (unfold H9; simp [*]); rintro e w' ⟨rfl, k0, t0⟩)
      | (go_at_call 31; refine (lift (w0 := w) (g := w.heap.size) (a0 := .slice ba bs.length bc) (a1 := .slice fa fl fc) (b0 := .slice ea es.length ec) (b1 := .string next) (c0 := .int .i64 a) (c1 := .int .i64 b) (c2 := .int .i64 c) (c3 := .string key) (c4 := .slice A ps.length cap) ?_ ?_ (XmlC.error key _ (by omega))).mono ?_; (first | exact t0 | exact t1.drew | exact t1); (unfold H9; simp [*]); rintro e w' ⟨rfl, k0, t0⟩)
      | (go_at_call 32; refine (lift (w0 := w) (g := w.heap.size) (a0 := .slice ba bs.length bc) (a1 := .slice fa fl fc) (b0 := .slice ea es.length ec) (b1 := .string next) (c0 := .int .i64 a) (c1 := .int .i64 b) (c2 := .int .i64 c) (c3 := .string key) (c4 := .slice A ps.length cap) ?_ ?_ (still (XmlL.refError key _ hk))).mono ?_; (first | exact t0 | exact t1.drew | exact t1); (unfold H9; simp [*]); rintro e w' ⟨rfl, k0, t0⟩))
  go_wp2
  go_ret
  exact ⟨rfl, t0.2⟩
end Go.Proofs.YtmimkgfkicgfiaaDoor.XmlR
