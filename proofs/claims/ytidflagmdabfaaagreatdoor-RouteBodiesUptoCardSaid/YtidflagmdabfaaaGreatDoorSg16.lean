/-
  The walk of package sig's Text. The walks of package http's between, Field, Count, first. The library's Split, Cut, Trim at this seat, in the plain part's words; the walk of package http's first. The walk of package sig's Sign.
-/
import Derived.Test.YtidflagmdabfaaaGreatDoorSg01
import Derived.Test.YtidflagmdabfaaaGreatDoorSg03
import Derived.Test.YtidflagmdabfaaaGreatDoorSg04
import Derived.Test.YtidflagmdabfaaaGreatDoorSg09
import Derived.Test.YtidflagmdabfaaaGreatDoorSg10
import Derived.Test.YtidflagmdabfaaaGreatDoorSg14
import Derived.Test.YtidflagmdabfaaaGreatDoorSg15
import Derived.Deep.RegionHeld3
import Derived.BigQuiet
import Derived.WalkSmall
import Derived.Test.YtidflagmdabfaaaGreatDoorProg
import Derived.WalkKit
import Derived.OwnWalk
import Derived.Deep.LoopGhost
import Derived.Deep.RegionLaw
import Derived.BigRegion
import Derived.Deep.DrawnRows
import Derived.LoopN
namespace Go.Proofs.YtidflagmdabfaaaGreatDoor.SgB
open Go.RowKit Go.Proofs.YtidflagmdabfaaaGreatDoor Go.Proofs.YtidflagmdabfaaaGreatDoor.HtW Go.Proofs.YtidflagmdabfaaaGreatDoor.Lf Go.Proofs.YtidflagmdabfaaaGreatDoor.App Go.Proofs.YtidflagmdabfaaaGreatDoor.ShaG Go.Proofs.YtidflagmdabfaaaGreatDoor.Itoa Go.Proofs.YtidflagmdabfaaaGreatDoor.SgA

/-- what package sig's calls ask of a world -/
structure Env (w : World) (aU aR aD aK : Addr) : Prop where
  uri : UriC.EU w aU
  req : w.cell? ⟨12, 0, none⟩ = some (ev aR)
  den : w.cell? ⟨14, 0, none⟩ = some (ev aD)
  skw : w.cell? ⟨15, 0, none⟩ = some (ev aK)
  mx : UriB.Mx w
  tab : Tab w
theorem Env.below {w w' : World} {aU aR aD aK : Addr} (h : Env w aU aR aD aK) (hb : Below w.heap.size w w') : Env w' aU aR aD aK :=
  ⟨h.uri.below hb, (hb.cell (World.block_lt_of_cell? w _ h.req)).trans h.req, (hb.cell (World.block_lt_of_cell? w _ h.den)).trans h.den, (hb.cell (World.block_lt_of_cell? w _ h.skw)).trans h.skw, h.mx.below hb, h.tab.below hb⟩
/-- an error's address -/
def adr (aU aR aD aK : Addr) : Sg.Er → Addr
  | .uri => aU
  | .req => aR
  | .denied => aD
  | .skew => aK
/-- an error's value -/
abbrev erv (aU aR aD aK : Addr) (e : Sg.Er) : Value := ev (adr aU aR aD aK e)
/-- a text or an error -/
def tv (aU aR aD aK : Addr) : Sg.Ans (List UInt8) → Value
  | .no e => .tuple #[.string ⟨#[]⟩, erv aU aR aD aK e]
  | .ok l => .tuple #[.string ⟨l.toArray⟩, .nilIface]

theorem lines_len {m t bd : List UInt8} {u : Up.Uri} {date : Int} (h : Up.parse t = some u) (ht : t.length ≤ 16777216) (hm : m.length ≤ 16777216) (h0 : -9223372036854775808 ≤ date) (h1 : date ≤ 9223372036854775807) : (Sg.lines m u bd date).length ≤ 1073741824 := by
  have hr := UriR.parse_read h
  have h2 := UriR.qt_len u.query
  have h3 := hr.sizes
  have h4 := hr.count
  have h5 := UriD.enc_len true u.path
  have h6 := Dec.itoa_len h0 h1
  have h7 : (Nm.hex (Sha.sha bd)).length = 64 := by rw [Nm.hex_length, Sha.sha_length]
  unfold Sg.lines
  simp only [List.length_append, h7, List.length_cons, List.length_nil]
  have h8 : Sg.scheme.length = 8 := rfl
  omega
theorem pairs_below {w w' : World} {a : Option Addr} {ps : List (List UInt8 × List UInt8)} (h : UriC.Pairs w a ps) (hb : Below w.heap.size w w') : UriC.Pairs w' a ps :=
  h.imp id fun ⟨b, o, h1, h2, h3⟩ => ⟨b, o, h1, Nat.lt_of_lt_of_le h2 hb.size, fun j p hj => ⟨(hb.cell (p := ⟨b, _, none⟩) h2).trans (h3 j p hj).1, (hb.cell (p := ⟨b, _, none⟩) h2).trans (h3 j p hj).2⟩⟩
theorem ret2v {a b c d : Value} (h1 : a = c) (h2 : b = d) : Ending.returned (.tuple #[a, b]) = .returned (.tuple #[c, d]) := by rw [h1, h2]

theorem six (w : World) (a b c d e f : ByteArray) (t : TypeId) : ∀ (j : Nat) x, [a, b, c, d, e, f][j]? = some x → (w.alloc (.cells #[.string a, .string b, .string c, .string d, .string e, .string f] t)).cell? ⟨w.heap.size, 0 + j, none⟩ = some (.string x) := by
  intro j x hj
  rw [Lib.cell_of_heap (heap_alloc_new _ _), Nat.zero_add]
  match j, hj with
  | 0, hj => simp at hj; subst hj; rfl
  | 1, hj => simp at hj; subst hj; rfl
  | 2, hj => simp at hj; subst hj; rfl
  | 3, hj => simp at hj; subst hj; rfl
  | 4, hj => simp at hj; subst hj; rfl
  | 5, hj => simp at hj; subst hj; rfl
  | n + 6, hj => simp at hj
theorem joinS (w : World) (a b c d e f T : List UInt8) (hT : T = a ++ [10] ++ b ++ [10] ++ c ++ [10] ++ d ++ [10] ++ e ++ [10] ++ f) (hl : T.length ≤ 140737488355328) :
    Calls Tryz.prog 71 #[.slice (some ⟨w.heap.size, 0, none⟩) 6 6, .string ⟨#[10]⟩] (w.alloc (.cells #[.string ⟨a.toArray⟩, .string ⟨b.toArray⟩, .string ⟨c.toArray⟩, .string ⟨d.toArray⟩, .string ⟨e.toArray⟩, .string ⟨f.toArray⟩] 9)) fun en w' => en = .returned (.string ⟨T.toArray⟩) ∧ Below w.heap.size w w' := by
  have hj : Lib.join ([(⟨a.toArray⟩ : ByteArray), ⟨b.toArray⟩, ⟨c.toArray⟩, ⟨d.toArray⟩, ⟨e.toArray⟩, ⟨f.toArray⟩].map (·.data.toList)) (ByteArray.mk #[10]).data.toList = T := by
    rw [hT]
    simp [Lib.join]
  refine (Tryz.strings_Join w.heap.size 0 6 [⟨a.toArray⟩, ⟨b.toArray⟩, ⟨c.toArray⟩, ⟨d.toArray⟩, ⟨e.toArray⟩, ⟨f.toArray⟩] ⟨#[10]⟩ _ (six w _ _ _ _ _ _ _) (by simp) (by simp) (by simp) (by rw [hj]; exact hl)).mono ?_
  rintro en w' ⟨rfl, hb⟩
  rw [hj]
  exact ⟨rfl, ((Below.refl _ _).alloc (Nat.le_refl _) _).trans (hb.mono (by simp))⟩
theorem S_alloc {w0 W : World} {p : Addr} {v : Value} (h : W.cell? p = some v ∧ Below w0.heap.size w0 W) (o : Obj) : (W.alloc o).cell? p = some v ∧ Below w0.heap.size w0 (W.alloc o) :=
  ⟨(((Below.refl W.heap.size W).alloc (Nat.le_refl _) o).cell (World.block_lt_of_cell? W _ h.1)).trans h.1, h.2.alloc h.2.size o⟩
theorem S_next {w0 W W' : World} {p : Addr} {v : Value} (h : W.cell? p = some v ∧ Below w0.heap.size w0 W) (hb : Below W.heap.size W W') : W'.cell? p = some v ∧ Below w0.heap.size w0 W' :=
  ⟨(hb.cell (World.block_lt_of_cell? W _ h.1)).trans h.1, h.2.trans (hb.mono h.2.size)⟩

set_option maxHeartbeats 4000000 in
set_option maxRecDepth 100000 in
theorem text (m t bd : List UInt8) (fsV : Value) {ab : Option Addr} (cb : Nat) (date : Int) (w : World) {aU aR aD aK : Addr} (hE : Env w aU aR aD aK) (hb : Bs w ab bd cb) (ht : t.length ≤ 16777215) (hm : m.length ≤ 16777216) (hbl : bd.length ≤ 140737488350000) (h0 : -9223372036854775808 ≤ date) (h1 : date ≤ 9223372036854775807) :
    Calls Tryz.prog 35 #[.agg #[.string ⟨m.toArray⟩, .string ⟨t.toArray⟩, fsV, .slice ab bd.length cb], .int .i64 date] w fun e w' => e = .returned (tv aU aR aD aK (Sg.text m t bd date)) ∧ Below w.heap.size w w' := by
  have E := Lib.hid hE; clear hE
  have HB := Lib.hid hb; clear hb
  have hA := (Below.refl w.heap.size w).alloc (Nat.le_refl _) (.cells #[.string ⟨m.toArray⟩, .string ⟨t.toArray⟩, fsV, .slice ab bd.length cb] 25)
  have hR0 := heap_alloc_new w (.cells #[.string ⟨m.toArray⟩, .string ⟨t.toArray⟩, fsV, .slice ab bd.length cb] 25)
  have hts : (ByteArray.mk t.toArray).size ≤ 16777216 := by rw [Com.size_mk]; omega
  cases hP : Up.parse t with
  | none =>
    have HR := Lib.hid (show Sg.text m t bd date = .no .uri by unfold Sg.text; rw [hP])
    go_enter Tryz.func35, Tryz.ntmps35
    go_wp2_with (go_at_call 43; refine (UriG.parseN ⟨t.toArray⟩ _ (E.out.uri.below hA) (E.out.mx.below hA) hts hP).mono ?_; rintro e w1 ⟨rfl, hb1⟩)
    go_ret2
    refine ⟨by rw [HR.out]; rfl, ?_⟩
    exact (hA.trans (hb1.mono hA.size)).alloc (Nat.le_trans hA.size hb1.size) _
  | some u =>
    have HRd := Lib.hid (UriR.parse_read hP)
    by_cases hg : Sg.goodDate date = true
    · have HR := Lib.hid (show Sg.text m t bd date = .ok (Sg.lines m u bd date) by unfold Sg.text; rw [hP]; simp only; rw [if_pos hg])
      have hp1 := HRd.out.sizes
      have hp2 := HRd.out.count
      have hqt := UriR.qt_len u.query
      have hqs : ∀ q ∈ u.query, q.1.length ≤ 16777216 ∧ q.2.length ≤ 16777216 := fun q hq => by have := UriR.sz_mem hq; omega
      have hsl := Sha.sha_length bd
      go_enter Tryz.func35, Tryz.ntmps35
      go_wp2_with (first
        | (go_at_call 43; refine (UriG.parseS ⟨t.toArray⟩ _ (E.out.uri.below hA) (E.out.mx.below hA) hts hP).mono ?_; rintro e w1 ⟨⟨aq, cq, rfl, hq1, hq2⟩, hb1⟩; have hbA := hA.trans (hb1.mono hA.size); have hbB := hbA.alloc hbA.size (.cells #[.string ⟨u.path.toArray⟩, .slice aq u.query.length cq] 97); have hz1 : w.heap.size + 1 ≤ w1.heap.size := (by have h := hb1.size; rw [World.size_alloc] at h; exact h); have xA := (hb1.block w.heap.size (by rw [World.size_alloc]; omega)).trans hR0; have hqB := pairs_below hq2 ((Below.refl _ _).alloc (Nat.le_refl _) (.cells #[.string ⟨u.path.toArray⟩, .slice aq u.query.length cq] 97)))
        | (go_at_call 68; refine (goodDate date _).mono ?_; rintro e w2 ⟨rfl, hw2⟩; subst hw2; rw [hg])
        | (go_at_call 69; refine (UriP.canonical ⟨u.path.toArray⟩ cq _ hq1.2 hqB (by omega) (by rw [Com.size_mk]; omega) hqs (by omega)).mono ?_; rintro e w6 ⟨rfl, hb6⟩; have hbC := hbB.trans (hb6.mono hbB.size); have xB := (hb6.block w.heap.size (by rw [World.size_alloc]; omega)).trans ((Below.heap_alloc w1 _ w.heap.size (by omega)).trans xA); have x0 := Lib.cell_of_heap (j := 0) xB; have x3 := Lib.cell_of_heap (j := 3) xB)
        | (go_at_call 70; refine (shaSum bd cb _ (HB.out.below hbC) hbl).mono ?_; rintro e w7 ⟨rfl, hb7⟩; have hbD := hbC.trans (hb7.mono hbC.size))
        | (guard_target =~ wpList _ _ _ ({ dst := _, op := Op.store 128 _ _, type := _, pos := _, after := _, guard := none } :: _) _ _; refine store32 rfl _ _ rfl (Sha.sha bd) hsl rfl rfl rfl ?_; intro w8 z8 h8 hb8))
      have hbE := hbD.trans (hb8.mono hbD.size)
      have y0 := (((hb7.trans (hb8.mono hb7.size)).cell (p := ⟨w.heap.size, 0, none⟩) (World.block_lt_of_cell? _ _ x0)).trans x0)
      have HT8 := Lib.hid ((E.out.below hbE).tab)
      have H8 := Lib.hid (bs_box h8 32 (Nat.le_of_eq hsl))
      have HL := Lib.hid (lines_len (bd := bd) (date := date) hP (by omega) hm h0 h1)
      clear xA xB x0 x3 hqB hbA hbB hbC hbD h8
      obtain ⟨V, hV⟩ : ∃ V, V = Sha.sha bd := ⟨_, rfl⟩
      have HV := Lib.hid hV
      rw [← hV] at hsl H8 ⊢
      clear hV
      have KI := Lib.hid (show ∀ W : World, (W.cell? ⟨w.heap.size, 0, none⟩ = some (.string ⟨m.toArray⟩) ∧ Below w8.heap.size w8 W) → Calls Tryz.prog 56 #[.int .i64 date] W fun e w' => e = .returned (.string ⟨(Lib.itoa date).toArray⟩) ∧ (w'.cell? ⟨w.heap.size, 0, none⟩ = some (.string ⟨m.toArray⟩) ∧ Below w8.heap.size w8 w') from fun W hW => by
        refine (itoa date h0 h1 W (HT8.out.below hW.2)).mono ?_
        rintro e w9 ⟨rfl, hb9⟩
        exact ⟨rfl, S_next hW hb9⟩)
      have KH := Lib.hid (show ∀ W : World, (W.cell? ⟨w.heap.size, 0, none⟩ = some (.string ⟨m.toArray⟩) ∧ Below w8.heap.size w8 W) → Calls Tryz.prog 72 #[.slice (some ⟨w7.heap.size, 0, none⟩) 32 32] W fun e w' => e = .returned (.string ⟨(Nm.hex V).toArray⟩) ∧ (w'.cell? ⟨w.heap.size, 0, none⟩ = some (.string ⟨m.toArray⟩) ∧ Below w8.heap.size w8 w') from fun W hW => by
        have hh := Hex.hexW V 32 W (H8.out.below hW.2) (by omega)
        rw [hsl] at hh
        refine hh.mono ?_
        rintro e w9 ⟨rfl, hb9⟩
        exact ⟨rfl, S_next hW hb9⟩)
      obtain ⟨T, hTE⟩ : ∃ T, T = Sg.lines m u bd date := ⟨_, rfl⟩
      have KJ := Lib.hid (show ∀ W : World, (W.cell? ⟨w.heap.size, 0, none⟩ = some (.string ⟨m.toArray⟩) ∧ Below w8.heap.size w8 W) → Calls Tryz.prog 71 #[.slice (some ⟨W.heap.size, 0, none⟩) 6 6, .string ⟨#[10]⟩] (W.alloc (.cells #[.string ⟨#[66, 79, 76, 76, 65, 82, 68, 49]⟩, .string ⟨(Lib.itoa date).toArray⟩, .string ⟨m.toArray⟩, .string ⟨(UriD.enc true u.path).toArray⟩, .string ⟨(UriR.qt u.query).toArray⟩, .string ⟨(Nm.hex V).toArray⟩] 9)) fun e w' => e = .returned (.string ⟨T.toArray⟩) ∧ (w'.cell? ⟨w.heap.size, 0, none⟩ = some (.string ⟨m.toArray⟩) ∧ Below w8.heap.size w8 w') from fun W hW => by
        refine (joinS W Sg.scheme (Lib.itoa date) m (UriD.enc true u.path) (UriR.qt u.query) (Nm.hex V) T (by rw [hTE, HV.out]; rfl) (by rw [hTE]; have := HL.out; omega)).mono ?_
        rintro e w9 ⟨rfl, hb9⟩
        exact ⟨rfl, S_next hW hb9⟩)
      have HTE := Lib.hid hTE
      clear hTE
      generalize UriD.enc true u.path = P1 at *
      generalize UriR.qt u.query = P2 at *
      generalize Nm.hex V = P3 at *
      generalize Lib.itoa date = P4 at *
      go_region_held3 (fun W => W.cell? ⟨w.heap.size, 0, none⟩ = some (.string ⟨m.toArray⟩) ∧ Below w8.heap.size w8 W)
        (first | exact ⟨y0, (Below.refl _ _).drew⟩ | assumption | exact S_alloc (by assumption) _)
        (first
          | (go_at_call 56; refine (KI.out _ (by assumption)).mono ?_; rintro e w9 ⟨rfl, hS9⟩)
          | (go_at_call 72; refine (KH.out _ (by assumption)).mono ?_; rintro e w10 ⟨rfl, hS10⟩)
          | (go_at_call 71; refine (KJ.out _ hS10).mono ?_; rintro e w11 ⟨rfl, hS11⟩))
      go_wp2_with fail
      go_ret2
      exact ⟨by rw [HR.out, ← HTE.out]; rfl, hbE.trans (hS11.2.mono hbE.size)⟩
    · have hgf : Sg.goodDate date = false := by simpa using hg
      have HR := Lib.hid (show Sg.text m t bd date = .no .req by unfold Sg.text; rw [hP]; simp only; rw [if_neg hg])
      go_enter Tryz.func35, Tryz.ntmps35
      go_wp2_with (first
        | (go_at_call 43; refine (UriG.parseS ⟨t.toArray⟩ _ (E.out.uri.below hA) (E.out.mx.below hA) hts hP).mono ?_; rintro e w1 ⟨⟨aq, cq, rfl, hq1, hq2⟩, hb1⟩; have hbA := hA.trans (hb1.mono hA.size); have hbB := hbA.alloc hbA.size (.cells #[.string ⟨u.path.toArray⟩, .slice aq u.query.length cq] 97); have q1 := (E.out.below hbB).req)
        | (go_at_call 68; refine (goodDate date _).mono ?_; rintro e w2 ⟨rfl, hw2⟩; subst hw2; rw [hgf]))
      go_quiet (fail)
      go_wp2_with fail
      go_ret2
      exact ⟨by rw [HR.out]; rfl, below_drewN hbB nq⟩
end Go.Proofs.YtidflagmdabfaaaGreatDoor.SgB
namespace Go.Proofs.YtidflagmdabfaaaGreatDoor.HtA
open Go.RowKit Go.Proofs.YtidflagmdabfaaaGreatDoor Go.Proofs.YtidflagmdabfaaaGreatDoor.Ht

theorem ret_bool {a b : Bool} (h : a = b) : Ending.returned (.bool a) = .returned (.bool b) := by rw [h]

end Go.Proofs.YtidflagmdabfaaaGreatDoor.HtA
namespace Go.Proofs.YtidflagmdabfaaaGreatDoor.HtC
open Go.RowKit Go.Proofs.YtidflagmdabfaaaGreatDoor Go.Proofs.YtidflagmdabfaaaGreatDoor.Ht Go.Proofs.YtidflagmdabfaaaGreatDoor.HtW Go.Proofs.YtidflagmdabfaaaGreatDoor.HtA

/-- a request's box -/
def Rq (B : Nat) (w : World) (a b c d : Value) : Prop := w.heap[B]? = some (.cells #[a, b, c, d] 25 (0, 0))
theorem Rq.below {B : Nat} {w w' : World} {a b c d : Value} (h : Rq B w a b c d) (hb : Below w.heap.size w w') : Rq B w' a b c d := (hb.block _ (Array.getElem?_eq_some_iff.1 h).1).trans h
theorem Rq.lt {B : Nat} {w : World} {a b c d : Value} (h : Rq B w a b c d) : B < w.heap.size := (Array.getElem?_eq_some_iff.1 h).1
theorem Rq.cells {B : Nat} {w : World} {a b c d : Value} (h : Rq B w a b c d) : w.cell? ⟨B, 0, none⟩ = some a ∧ w.cell? ⟨B, 1, none⟩ = some b ∧ w.cell? ⟨B, 2, none⟩ = some c ∧ w.cell? ⟨B, 3, none⟩ = some d ∧ w.frozen? ⟨B, 0, none⟩ = false ∧ w.frozen? ⟨B, 1, none⟩ = false ∧ w.frozen? ⟨B, 2, none⟩ = false ∧ w.frozen? ⟨B, 3, none⟩ = false := by
  unfold Rq at h
  refine ⟨?_, ?_, ?_, ?_, Lib.frozen_of_heap h 0, Lib.frozen_of_heap h 1, Lib.frozen_of_heap h 2, Lib.frozen_of_heap h 3⟩
  all_goals (rw [Lib.cell_of_heap h]; rfl)
abbrev st4 (w : World) (B : Nat) (a b c d : Value) : World := (((w.setCell ⟨B, 0, none⟩ a).setCell ⟨B, 1, none⟩ b).setCell ⟨B, 2, none⟩ c).setCell ⟨B, 3, none⟩ d
theorem Rq.put1 {B : Nat} {w : World} {v0 v1 v2 v3 : Value} (h : Rq B w v0 v1 v2 v3) (a : Value) : Rq B (w.setCell ⟨B, 0, none⟩ a) a v1 v2 v3 := by
  unfold Rq at h ⊢
  simp only [World.setCell, Array.getElem?_modify, if_true, h]; rfl
theorem Rq.put2 {B : Nat} {w : World} {v0 v1 v2 v3 : Value} (h : Rq B w v0 v1 v2 v3) (a : Value) : Rq B (w.setCell ⟨B, 1, none⟩ a) v0 a v2 v3 := by
  unfold Rq at h ⊢
  simp only [World.setCell, Array.getElem?_modify, if_true, h]; rfl
theorem Rq.put3 {B : Nat} {w : World} {v0 v1 v2 v3 : Value} (h : Rq B w v0 v1 v2 v3) (a : Value) : Rq B (w.setCell ⟨B, 2, none⟩ a) v0 v1 a v3 := by
  unfold Rq at h ⊢
  simp only [World.setCell, Array.getElem?_modify, if_true, h]; rfl
theorem Rq.put4 {B : Nat} {w : World} {v0 v1 v2 v3 : Value} (h : Rq B w v0 v1 v2 v3) (a : Value) : Rq B (w.setCell ⟨B, 3, none⟩ a) v0 v1 v2 a := by
  unfold Rq at h ⊢
  simp only [World.setCell, Array.getElem?_modify, if_true, h]; rfl
theorem Rq.put {B : Nat} {w : World} {v0 v1 v2 v3 : Value} (h : Rq B w v0 v1 v2 v3) (a b c d : Value) : Rq B (st4 w B a b c d) a b c d := (((h.put1 a).put2 b).put3 c).put4 d
theorem Rq.far {B : Nat} {w : World} {a b c d : Value} (h : Rq B w a b c d) {p : Addr} (hp : B ≠ p.block) (u : Value) : Rq B (w.setCell p u) a b c d := (Below.heap_setCell _ _ _ _ hp).trans h
theorem below_four {B : Nat} {w w' : World} (h : Below B w w') (a b c d : Value) : Below B w (st4 w' B a b c d) :=
  (((h.setCell (p := ⟨B, 0, none⟩) (Nat.le_refl _) _).setCell (p := ⟨B, 1, none⟩) (Nat.le_refl _) _).setCell (p := ⟨B, 2, none⟩) (Nat.le_refl _) _).setCell (p := ⟨B, 3, none⟩) (Nat.le_refl _) _
theorem Rq.run {B : Nat} {w : World} {a b c d er : Value} (h : Rq B w a b c d) {fn : Func} (e : fn.results = #[.cell 2 25, .tmp 3]) {tmps : Array Value} (h2 : tmps.getD 2 undef = .pointer (some ⟨B, 0, none⟩)) (h3 : tmps.getD 3 undef = er) :
    (results fn tmps).run Tryz.prog w = .ok (.tuple #[.agg #[a, b, c, d], er]) w := by
  obtain ⟨r0, r1, r2, r3, _⟩ := h.cells
  rw [results_cell_tmp e, h2, h3]
  simp [go_sem, r0, r1, r2, r3, Result.andThen]

/-- package bytealg's variable holds some number -/
def Mx (w : World) : Prop := ∃ m, w.cell? ⟨18, 0, none⟩ = some (.int .i64 m)
theorem Mx.below {w w' : World} (h : Mx w) (hb : Below w.heap.size w w') : Mx w' := by
  obtain ⟨m, hm⟩ := h
  exact ⟨m, (hb.cell (World.block_lt_of_cell? w _ hm)).trans hm⟩
theorem below_drewN {B : Nat} {w w' : World} (h : Below B w w') : ∀ n, Below B w (w'.drewN n)
  | 0 => h
  | n + 1 => (below_drewN h n).drew

theorem split (sep : List UInt8) (h1 : 1 ≤ sep.length) (s : ByteArray) (w : World) (hs : s.size < 4294967281) (hm : Mx w) :
    Calls Tryz.prog 233 #[.string s, .string ⟨sep.toArray⟩] w fun e w' => e = .returned (.slice (some ⟨w.heap.size, 0, none⟩) (Ht.split sep s.data.toList).length (Ht.split sep s.data.toList).length) ∧
      (∀ (j : Nat) x, (Ht.split sep s.data.toList)[j]? = some x → w'.cell? ⟨w.heap.size, j, none⟩ = some (.string ⟨x.toArray⟩)) ∧ w.heap.size < w'.heap.size ∧ Below w.heap.size w w' := by
  obtain ⟨m, hm⟩ := hm
  have hz : 1 ≤ (⟨sep.toArray⟩ : ByteArray).size := by rw [Com.size_mk]; exact h1
  refine (Tryz.strings_Split s ⟨sep.toArray⟩ m w hs hm hz).mono ?_
  rintro e w' ⟨rfl, rfl⟩
  have hl := Lib.splitB_all ⟨sep.toArray⟩ hz 0 _ s rfl
  have he := Ht.split_eq sep s
  have hl2 : (Ht.split sep s.data.toList).length = Lib.countB s ⟨sep.toArray⟩ + 1 := by rw [← he, List.length_map, hl]
  refine ⟨by rw [hl2], fun j x hj => ?_, by simp, (Below.refl _ _).alloc (Nat.le_refl _) _⟩
  rw [Lib.cell_of_heap (heap_alloc_new _ _)]
  rw [← he, List.getElem?_map, Option.map_eq_some_iff] at hj
  obtain ⟨y, hy, rfl⟩ := hj
  simp [hy]

theorem cut (s : ByteArray) (w : World) (hs : s.size < 4294967281) (hm : Mx w) :
    Calls Tryz.prog 85 #[.string s, .string ⟨#[58]⟩] w fun e w' => e = .returned (.tuple #[.string ⟨(name s.data.toList).toArray⟩, .string ⟨(value s.data.toList).toArray⟩, .bool (found s.data.toList)]) ∧ Below w.heap.size w w' := by
  obtain ⟨m, hm⟩ := hm
  refine (Tryz.strings_Cut s ⟨#[58]⟩ m w hs hm).mono ?_
  rintro e w' ⟨rfl, n, rfl⟩
  exact ⟨rfl, below_drewN (Below.refl _ _) n⟩

def FirstPost (s : List UInt8) (e : Ending) : Prop := match Ht.first s with
  | some mt => e = .returned (.tuple #[.agg #[.string ⟨mt.1.toArray⟩, .string ⟨mt.2.toArray⟩, .slice none 0 0, .slice none 0 0], .bool true])
  | none => ∃ a b : ByteArray, e = .returned (.tuple #[.agg #[.string a, .string b, .slice none 0 0, .slice none 0 0], .bool false])
theorem fp_no {s : List UInt8} {a b : ByteArray} (h : Ht.first s = none) : FirstPost s (.returned (.tuple #[.agg #[.string a, .string b, .slice none 0 0, .slice none 0 0], .bool false])) := by unfold FirstPost; rw [h]; exact ⟨a, b, rfl⟩

end Go.Proofs.YtidflagmdabfaaaGreatDoor.HtC
namespace Go.Proofs.YtidflagmdabfaaaGreatDoor.SgC
open Go.RowKit Go.Proofs.YtidflagmdabfaaaGreatDoor Go.Proofs.YtidflagmdabfaaaGreatDoor.HtW Go.Proofs.YtidflagmdabfaaaGreatDoor.HtC Go.Proofs.YtidflagmdabfaaaGreatDoor.Lf Go.Proofs.YtidflagmdabfaaaGreatDoor.App Go.Proofs.YtidflagmdabfaaaGreatDoor.ShaG Go.Proofs.YtidflagmdabfaaaGreatDoor.Itoa Go.Proofs.YtidflagmdabfaaaGreatDoor.SgA Go.Proofs.YtidflagmdabfaaaGreatDoor.SgB

theorem cons_of {n : Nat} {l : List Value} (h : l.length = n + 1) : ∃ x l', l = x :: l' ∧ l'.length = n := by
  match l, h with
  | x :: l', h => exact ⟨x, l', rfl, by simpa using h⟩
/-- a frame of 79 slots of which a few are known -/
def FrS (f2 f3 f4 f6 f7 f8 : Value) (Rel : Value → List Deferred → Prop) (A : Act) : Prop :=
  ∃ (l : List Value) (dl : List Deferred), A = { tmps := l.toArray, defers := dl } ∧ l.length = 79 ∧ l[2]? = some f2 ∧ l[3]? = some f3 ∧ l[4]? = some f4 ∧ l[6]? = some f6 ∧ l[7]? = some f7 ∧ l[8]? = some f8 ∧ ∃ v, l[10]? = some v ∧ Rel v dl
set_option maxRecDepth 100000 in
theorem unpackS {f2 f3 f4 f6 f7 f8 : Value} {Rel : Value → List Deferred → Prop} {P : Act → Prop} {A : Act} (h : FrS f2 f3 f4 f6 f7 f8 Rel A) (hp : ∀ (u0 u1 u5 u9 u10 u11 u12 u13 u14 u15 u16 u17 u18 u19 u20 u21 u22 u23 u24 u25 u26 u27 u28 u29 u30 u31 u32 u33 u34 u35 u36 u37 u38 u39 u40 u41 u42 u43 u44 u45 u46 u47 u48 u49 u50 u51 u52 u53 u54 u55 u56 u57 u58 u59 u60 u61 u62 u63 u64 u65 u66 u67 u68 u69 u70 u71 u72 u73 u74 u75 u76 u77 u78 : Value) (dl : List Deferred), Rel u10 dl → P { tmps := ([u0, u1, f2, f3, f4, u5, f6, f7, f8, u9, u10, u11, u12, u13, u14, u15, u16, u17, u18, u19, u20, u21, u22, u23, u24, u25, u26, u27, u28, u29, u30, u31, u32, u33, u34, u35, u36, u37, u38, u39, u40, u41, u42, u43, u44, u45, u46, u47, u48, u49, u50, u51, u52, u53, u54, u55, u56, u57, u58, u59, u60, u61, u62, u63, u64, u65, u66, u67, u68, u69, u70, u71, u72, u73, u74, u75, u76, u77, u78] : List Value).toArray, defers := dl }) : P A := by
  obtain ⟨l, dl, rfl, hl, e2, e3, e4, e6, e7, e8, v, hv, hr⟩ := h
  obtain ⟨u0, l0, rfl, h0⟩ := cons_of hl; clear hl
  obtain ⟨u1, l1, rfl, h1⟩ := cons_of h0; clear h0
  obtain ⟨u2, l2, rfl, h2⟩ := cons_of h1; clear h1
  obtain ⟨u3, l3, rfl, h3⟩ := cons_of h2; clear h2
  obtain ⟨u4, l4, rfl, h4⟩ := cons_of h3; clear h3
  obtain ⟨u5, l5, rfl, h5⟩ := cons_of h4; clear h4
  obtain ⟨u6, l6, rfl, h6⟩ := cons_of h5; clear h5
  obtain ⟨u7, l7, rfl, h7⟩ := cons_of h6; clear h6
  obtain ⟨u8, l8, rfl, h8⟩ := cons_of h7; clear h7
  obtain ⟨u9, l9, rfl, h9⟩ := cons_of h8; clear h8
  obtain ⟨u10, l10, rfl, h10⟩ := cons_of h9; clear h9
  obtain ⟨u11, l11, rfl, h11⟩ := cons_of h10; clear h10
  obtain ⟨u12, l12, rfl, h12⟩ := cons_of h11; clear h11
  obtain ⟨u13, l13, rfl, h13⟩ := cons_of h12; clear h12
  obtain ⟨u14, l14, rfl, h14⟩ := cons_of h13; clear h13
  obtain ⟨u15, l15, rfl, h15⟩ := cons_of h14; clear h14
  obtain ⟨u16, l16, rfl, h16⟩ := cons_of h15; clear h15
  obtain ⟨u17, l17, rfl, h17⟩ := cons_of h16; clear h16
  obtain ⟨u18, l18, rfl, h18⟩ := cons_of h17; clear h17
  obtain ⟨u19, l19, rfl, h19⟩ := cons_of h18; clear h18
  obtain ⟨u20, l20, rfl, h20⟩ := cons_of h19; clear h19
  obtain ⟨u21, l21, rfl, h21⟩ := cons_of h20; clear h20
  obtain ⟨u22, l22, rfl, h22⟩ := cons_of h21; clear h21
  obtain ⟨u23, l23, rfl, h23⟩ := cons_of h22; clear h22
  obtain ⟨u24, l24, rfl, h24⟩ := cons_of h23; clear h23
  obtain ⟨u25, l25, rfl, h25⟩ := cons_of h24; clear h24
  obtain ⟨u26, l26, rfl, h26⟩ := cons_of h25; clear h25
  obtain ⟨u27, l27, rfl, h27⟩ := cons_of h26; clear h26
  obtain ⟨u28, l28, rfl, h28⟩ := cons_of h27; clear h27
  obtain ⟨u29, l29, rfl, h29⟩ := cons_of h28; clear h28
  obtain ⟨u30, l30, rfl, h30⟩ := cons_of h29; clear h29
  obtain ⟨u31, l31, rfl, h31⟩ := cons_of h30; clear h30
  obtain ⟨u32, l32, rfl, h32⟩ := cons_of h31; clear h31
  obtain ⟨u33, l33, rfl, h33⟩ := cons_of h32; clear h32
  obtain ⟨u34, l34, rfl, h34⟩ := cons_of h33; clear h33
  obtain ⟨u35, l35, rfl, h35⟩ := cons_of h34; clear h34
  obtain ⟨u36, l36, rfl, h36⟩ := cons_of h35; clear h35
  obtain ⟨u37, l37, rfl, h37⟩ := cons_of h36; clear h36
  obtain ⟨u38, l38, rfl, h38⟩ := cons_of h37; clear h37
  obtain ⟨u39, l39, rfl, h39⟩ := cons_of h38; clear h38
  obtain ⟨u40, l40, rfl, h40⟩ := cons_of h39; clear h39
  obtain ⟨u41, l41, rfl, h41⟩ := cons_of h40; clear h40
  obtain ⟨u42, l42, rfl, h42⟩ := cons_of h41; clear h41
  obtain ⟨u43, l43, rfl, h43⟩ := cons_of h42; clear h42
  obtain ⟨u44, l44, rfl, h44⟩ := cons_of h43; clear h43
  obtain ⟨u45, l45, rfl, h45⟩ := cons_of h44; clear h44
  obtain ⟨u46, l46, rfl, h46⟩ := cons_of h45; clear h45
  obtain ⟨u47, l47, rfl, h47⟩ := cons_of h46; clear h46
  obtain ⟨u48, l48, rfl, h48⟩ := cons_of h47; clear h47
  obtain ⟨u49, l49, rfl, h49⟩ := cons_of h48; clear h48
  obtain ⟨u50, l50, rfl, h50⟩ := cons_of h49; clear h49
  obtain ⟨u51, l51, rfl, h51⟩ := cons_of h50; clear h50
  obtain ⟨u52, l52, rfl, h52⟩ := cons_of h51; clear h51
  obtain ⟨u53, l53, rfl, h53⟩ := cons_of h52; clear h52
  obtain ⟨u54, l54, rfl, h54⟩ := cons_of h53; clear h53
  obtain ⟨u55, l55, rfl, h55⟩ := cons_of h54; clear h54
  obtain ⟨u56, l56, rfl, h56⟩ := cons_of h55; clear h55
  obtain ⟨u57, l57, rfl, h57⟩ := cons_of h56; clear h56
  obtain ⟨u58, l58, rfl, h58⟩ := cons_of h57; clear h57
  obtain ⟨u59, l59, rfl, h59⟩ := cons_of h58; clear h58
  obtain ⟨u60, l60, rfl, h60⟩ := cons_of h59; clear h59
  obtain ⟨u61, l61, rfl, h61⟩ := cons_of h60; clear h60
  obtain ⟨u62, l62, rfl, h62⟩ := cons_of h61; clear h61
  obtain ⟨u63, l63, rfl, h63⟩ := cons_of h62; clear h62
  obtain ⟨u64, l64, rfl, h64⟩ := cons_of h63; clear h63
  obtain ⟨u65, l65, rfl, h65⟩ := cons_of h64; clear h64
  obtain ⟨u66, l66, rfl, h66⟩ := cons_of h65; clear h65
  obtain ⟨u67, l67, rfl, h67⟩ := cons_of h66; clear h66
  obtain ⟨u68, l68, rfl, h68⟩ := cons_of h67; clear h67
  obtain ⟨u69, l69, rfl, h69⟩ := cons_of h68; clear h68
  obtain ⟨u70, l70, rfl, h70⟩ := cons_of h69; clear h69
  obtain ⟨u71, l71, rfl, h71⟩ := cons_of h70; clear h70
  obtain ⟨u72, l72, rfl, h72⟩ := cons_of h71; clear h71
  obtain ⟨u73, l73, rfl, h73⟩ := cons_of h72; clear h72
  obtain ⟨u74, l74, rfl, h74⟩ := cons_of h73; clear h73
  obtain ⟨u75, l75, rfl, h75⟩ := cons_of h74; clear h74
  obtain ⟨u76, l76, rfl, h76⟩ := cons_of h75; clear h75
  obtain ⟨u77, l77, rfl, h77⟩ := cons_of h76; clear h76
  obtain ⟨u78, l78, rfl, h78⟩ := cons_of h77; clear h77
  obtain rfl := List.eq_nil_of_length_eq_zero h78
  obtain rfl : u2 = f2 := by simpa using e2
  obtain rfl : u3 = f3 := by simpa using e3
  obtain rfl : u4 = f4 := by simpa using e4
  obtain rfl : u6 = f6 := by simpa using e6
  obtain rfl : u7 = f7 := by simpa using e7
  obtain rfl : u8 = f8 := by simpa using e8
  obtain rfl : u10 = v := by simpa using hv
  exact hp _ _ _ _ _ _ _ _ _ _ _ _ _ _ _ _ _ _ _ _ _ _ _ _ _ _ _ _ _ _ _ _ _ _ _ _ _ _ _ _ _ _ _ _ _ _ _ _ _ _ _ _ _ _ _ _ _ _ _ _ _ _ _ _ _ _ _ _ _ _ _ _ _ dl hr


/-- append onto nil, in a region that draws its order -/
theorem step_append_nil {ops : Array Oper} {o : Oper} {a : Act} {w : World} {K : Act → World → Prop} {Q : Exit → Act → World → Prop} {E : Prop} (hg : o.guard = none) (s x : Operand) (hop : o.op = Op.call { callee := Callee.builtin Builtin.append, args := #[s, x], argTypes := #[23, 23] })
    (base : Nat) (r : List UInt8) (aR : Option Addr) (cR : Nat) (hB : Bs w aR r cR) (hbase : base ≤ w.heap.size) (hlen : r.length ≤ 140737488355328)
    (hs : a.eval s = .slice none 0 0) (hx : a.eval x = .slice aR r.length cR)
    (hK : ∀ ar cr w', w'.ownsRow base 5 1 (.slice ar r.length cr) r.length (Lib.byteCells r) → Below base w w' → K (a.put o.dst (.slice ar r.length cr)) w') :
    if Region.wanted o (yielded ops a.tmps) = true then Oper.wp Tryz.prog o a w K Q else E := by
  have hw : Region.wanted o (yielded ops a.tmps) = true := by simp [Region.wanted, hg]
  rw [if_pos hw]
  obtain ⟨ar, cr, w', hrun, h1, _, h3⟩ := HtX.run_append_bytes w base (.slice none 0 0) [] r ⟨rfl, .inl ⟨rfl, rfl⟩⟩ aR cR hB hbase (by simpa using hlen) o.type
  rw [List.length_nil, Nat.zero_add] at hrun
  rw [List.length_nil, Nat.zero_add, List.nil_append] at h1
  unfold Oper.wp
  simp [execOp, hop, resolve, invoke, builtin, hs, hx, hrun, Result.andThen]
  exact hK ar cr w' h1 h3
/-- a request that says nothing -/
abbrev noReq : Value := .agg #[.string ⟨#[]⟩, .string ⟨#[]⟩, .slice none 0 0, .slice none 0 0]
theorem Rq.run6 {B : Nat} {w : World} {a b c d er : Value} (h : Rq B w a b c d) {fn : Func} (e : fn.results = #[.cell 6 25, .tmp 7]) {tmps : Array Value} (h2 : tmps.getD 6 undef = .pointer (some ⟨B, 0, none⟩)) (h3 : tmps.getD 7 undef = er) :
    (results fn tmps).run Tryz.prog w = .ok (.tuple #[.agg #[a, b, c, d], er]) w := by
  obtain ⟨r0, r1, r2, r3, _⟩ := h.cells
  rw [results_cell_tmp e, h2, h3]
  simp [go_sem, r0, r1, r2, r3, Result.andThen]
theorem below_four' {b B : Nat} {w w' : World} (h : Below b w w') (hB : b ≤ B) (x y z v : Value) : Below b w (st4 w' B x y z v) :=
  (((h.setCell (p := ⟨B, 0, none⟩) hB _).setCell (p := ⟨B, 1, none⟩) hB _).setCell (p := ⟨B, 2, none⟩) hB _).setCell (p := ⟨B, 3, none⟩) hB _
theorem heap_alloc_at1 (w : World) (o : Obj) {o' : Obj} : ((w.alloc o').alloc o).heap[w.heap.size + 1]? = some o := by
  have := heap_alloc_new (w.alloc o') o
  rwa [World.size_alloc] at this
/-- a signed request, or an error -/
def SignPost (aU aR aD aK : Addr) (m t bd : List UInt8) (base : Nat) (w' : World) (e : Ending) : Sg.Ans (List Sg.Fld) → Prop
  | .no er => e = .returned (.tuple #[noReq, erv aU aR aD aK er])
  | .ok fs => ∃ af cf abd cbd, e = .returned (.tuple #[.agg #[.string ⟨m.toArray⟩, .string ⟨t.toArray⟩, .slice af fs.length cf, .slice abd bd.length cbd], .nilIface]) ∧ Fs w' af fs ∧ fs.length ≤ cf ∧ w'.ownsRow base 5 1 (.slice abd bd.length cbd) bd.length (Lib.byteCells bd)

set_option maxHeartbeats 4000000 in
set_option maxRecDepth 100000 in
theorem sign_no (m t bd : List UInt8) (fs : List Sg.Fld) (n s : List UInt8) {ab af : Option Addr} (cb cf : Nat) (date : Int) (w : World) {aU aR aD aK : Addr} {er : Sg.Er} (hE : Env w aU aR aD aK) (hb : Bs w ab bd cb) (ht : t.length ≤ 16777215) (hm : m.length ≤ 16777216) (hbl : bd.length ≤ 140737488350000) (h0 : -9223372036854775808 ≤ date) (h1 : date ≤ 9223372036854775807)
    (hno : Sg.text m t bd date = .no er) :
    Calls Tryz.prog 36 #[.agg #[.string ⟨m.toArray⟩, .string ⟨t.toArray⟩, .slice af fs.length cf, .slice ab bd.length cb], .agg #[.string ⟨n.toArray⟩, .string ⟨s.toArray⟩], .int .i64 date] w fun e w' => e = .returned (.tuple #[noReq, erv aU aR aD aK er]) ∧ Below w.heap.size w w' := by
  have E := Lib.hid hE; clear hE
  have HB := Lib.hid hb; clear hb
  obtain ⟨w3, hw3, hb3, hz3, hq3, hk3, hr3⟩ : ∃ w3 : World, w3 = (((w.alloc (.cells #[.string ⟨m.toArray⟩, .string ⟨t.toArray⟩, .slice af fs.length cf, .slice ab bd.length cb] 25)).alloc (.cells #[.string ⟨n.toArray⟩, .string ⟨s.toArray⟩] 71)).alloc (.cells #[.string ⟨#[]⟩, .string ⟨#[]⟩, .slice none 0 0, .slice none 0 0] 25)) ∧ Below w.heap.size w w3 ∧ w3.heap.size = w.heap.size + 3 ∧ Rq (w.heap.size + 2) w3 (.string ⟨#[]⟩) (.string ⟨#[]⟩) (.slice none 0 0) (.slice none 0 0) ∧ w3.heap[w.heap.size + 1]? = some (.cells #[.string ⟨n.toArray⟩, .string ⟨s.toArray⟩] 71 (0, 0)) ∧ Rq w.heap.size w3 (.string ⟨m.toArray⟩) (.string ⟨t.toArray⟩) (.slice af fs.length cf) (.slice ab bd.length cb) := by
    refine ⟨_, rfl, (((Below.refl _ _).alloc (Nat.le_refl _) _).alloc (by simp) _).alloc (by simp; omega) _, by simp, ?_, (Below.heap_alloc _ _ _ (by simp)).trans (heap_alloc_at1 _ _), (Below.heap_alloc _ _ _ (by simp; omega)).trans ((Below.heap_alloc _ _ _ (by simp)).trans (heap_alloc_new _ _))⟩
    have := heap_alloc_new ((w.alloc (.cells #[.string ⟨m.toArray⟩, .string ⟨t.toArray⟩, .slice af fs.length cf, .slice ab bd.length cb] 25)).alloc (.cells #[.string ⟨n.toArray⟩, .string ⟨s.toArray⟩] 71)) (.cells #[.string ⟨#[]⟩, .string ⟨#[]⟩, .slice none 0 0, .slice none 0 0] 25)
    rwa [World.size_alloc, World.size_alloc] at this
  have hT := text m t bd (.slice af fs.length cf) cb date w3 (E.out.below hb3) (HB.out.below hb3) ht hm hbl h0 h1
  rw [hno, hw3, show tv aU aR aD aK (.no er) = .tuple #[.string ⟨#[]⟩, .iface 288 (.pointer (some (adr aU aR aD aK er)))] from rfl] at hT
  have KT := Lib.hid hT; clear hT
  go_enter Tryz.func36, Tryz.ntmps36
  go_wp2_with (go_at_call 35; refine KT.out.mono ?_; rintro e w4 ⟨rfl, hb4⟩; rw [← hw3] at hb4; have hq4 := hq3.below hb4; obtain ⟨r0, r1, r2, r3, f0, f1, f2, f3⟩ := hq4.cells)
  refine bodyPost_ret (Rq.run6 (hq4.put (.string ⟨#[]⟩) (.string ⟨#[]⟩) (.slice none 0 0) (.slice none 0 0)) rfl rfl rfl) rfl ⟨rfl, ?_⟩
  exact below_four' (hb3.trans (hb4.mono (by omega))) (by omega) _ _ _ _
set_option maxHeartbeats 4000000 in
set_option maxRecDepth 100000 in
theorem sign_req (m t bd : List UInt8) (fs : List Sg.Fld) (n s : List UInt8) {ab af : Option Addr} (cb cf : Nat) (date : Int) (w : World) {aU aR aD aK : Addr} {x : List UInt8} (hE : Env w aU aR aD aK) (hb : Bs w ab bd cb) (ht : t.length ≤ 16777215) (hm : m.length ≤ 16777216) (hbl : bd.length ≤ 140737488350000) (h0 : -9223372036854775808 ≤ date) (h1 : date ≤ 9223372036854775807)
    (hno : Sg.text m t bd date = .ok x) (hnl : n.length ≤ 16777216) (hg : Sg.goodName n = false) :
    Calls Tryz.prog 36 #[.agg #[.string ⟨m.toArray⟩, .string ⟨t.toArray⟩, .slice af fs.length cf, .slice ab bd.length cb], .agg #[.string ⟨n.toArray⟩, .string ⟨s.toArray⟩], .int .i64 date] w fun e w' => e = .returned (.tuple #[noReq, ev aR]) ∧ Below w.heap.size w w' := by
  have E := Lib.hid hE; clear hE
  have HB := Lib.hid hb; clear hb
  obtain ⟨w3, hw3, hb3, hz3, hq3, hk3, hr3⟩ : ∃ w3 : World, w3 = (((w.alloc (.cells #[.string ⟨m.toArray⟩, .string ⟨t.toArray⟩, .slice af fs.length cf, .slice ab bd.length cb] 25)).alloc (.cells #[.string ⟨n.toArray⟩, .string ⟨s.toArray⟩] 71)).alloc (.cells #[.string ⟨#[]⟩, .string ⟨#[]⟩, .slice none 0 0, .slice none 0 0] 25)) ∧ Below w.heap.size w w3 ∧ w3.heap.size = w.heap.size + 3 ∧ Rq (w.heap.size + 2) w3 (.string ⟨#[]⟩) (.string ⟨#[]⟩) (.slice none 0 0) (.slice none 0 0) ∧ w3.heap[w.heap.size + 1]? = some (.cells #[.string ⟨n.toArray⟩, .string ⟨s.toArray⟩] 71 (0, 0)) ∧ Rq w.heap.size w3 (.string ⟨m.toArray⟩) (.string ⟨t.toArray⟩) (.slice af fs.length cf) (.slice ab bd.length cb) := by
    refine ⟨_, rfl, (((Below.refl _ _).alloc (Nat.le_refl _) _).alloc (by simp) _).alloc (by simp; omega) _, by simp, ?_, (Below.heap_alloc _ _ _ (by simp)).trans (heap_alloc_at1 _ _), (Below.heap_alloc _ _ _ (by simp; omega)).trans ((Below.heap_alloc _ _ _ (by simp)).trans (heap_alloc_new _ _))⟩
    have := heap_alloc_new ((w.alloc (.cells #[.string ⟨m.toArray⟩, .string ⟨t.toArray⟩, .slice af fs.length cf, .slice ab bd.length cb] 25)).alloc (.cells #[.string ⟨n.toArray⟩, .string ⟨s.toArray⟩] 71)) (.cells #[.string ⟨#[]⟩, .string ⟨#[]⟩, .slice none 0 0, .slice none 0 0] 25)
    rwa [World.size_alloc, World.size_alloc] at this
  have hT := text m t bd (.slice af fs.length cf) cb date w3 (E.out.below hb3) (HB.out.below hb3) ht hm hbl h0 h1
  rw [hno, hw3, show tv aU aR aD aK (.ok x) = .tuple #[.string ⟨x.toArray⟩, .nilIface] from rfl] at hT
  have KT := Lib.hid hT; clear hT
  go_enter Tryz.func36, Tryz.ntmps36
  go_wp2_with (first
    | (go_at_call 35; refine KT.out.mono ?_; rintro e w4 ⟨rfl, hb4⟩; rw [← hw3] at hb4; have hq4 := hq3.below hb4; obtain ⟨r0, r1, r2, r3, f0, f1, f2, f3⟩ := hq4.cells; have k4 := (hb4.block _ (by omega)).trans hk3; have k0 := Lib.cell_of_heap (j := 0) k4; have qr := ((E.out.below (hb3.trans (hb4.mono (by omega)))).req))
    | (go_at_call 73; refine (goodName ⟨n.toArray⟩ _ (by rw [Com.size_mk]; omega)).mono ?_; rintro e w5 ⟨rfl, hw5⟩; subst hw5; rw [show Sg.goodName (ByteArray.mk n.toArray).data.toList = false from hg]))
  have hgl : 12 < w.heap.size := World.block_lt_of_cell? w _ E.out.req
  have ne1 : ¬ (w.heap.size + 1 + 1 = 12) := by omega
  have ne2 : ¬ (12 = w.heap.size + 1 + 1) := by omega
  go_region_law (fail)
  all_goals
    go_wp2_with fail
    refine bodyPost_ret (Rq.run6 (Rq.put (w := w4.drew) hq4 (.string ⟨#[]⟩) (.string ⟨#[]⟩) (.slice none 0 0) (.slice none 0 0)) rfl rfl rfl) rfl ⟨rfl, ?_⟩
    exact below_four' (hb3.trans (hb4.mono (by omega))).drew (by omega) _ _ _ _
end Go.Proofs.YtidflagmdabfaaaGreatDoor.SgC
