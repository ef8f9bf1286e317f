/-
  The walk of bollardlaw07.DiskSafe.
-/
import Derived.Test.YtmimkgfkicgfiaaDoorDiskK
namespace Go.Proofs.YtmimkgfkicgfiaaDoor.DiskL
open Go.RowKit Go.Proofs.YtmimkgfkicgfiaaDoor Go.Proofs.YtmimkgfkicgfiaaDoor.Dw Go.Proofs.YtmimkgfkicgfiaaDoor.DiskB Go.Proofs.YtmimkgfkicgfiaaDoor.DiskC Go.Proofs.YtmimkgfkicgfiaaDoor.DiskH Go.Proofs.YtmimkgfkicgfiaaDoor.DiskK

/-- one call of a script -/
structure OpV where
  kind : Int
  which : Int
  n : Int
  name : ByteArray
  to : ByteArray
  a : Option Addr
  l : List UInt8
  c : Nat
/-- a script in memory, below block B -/
def Script (B : Nat) (w : World) (a : Option Addr) (os : List OpV) : Prop :=
  os = [] ∨ ∃ b o, a = some ⟨b, o, none⟩ ∧ b < B ∧ b < w.heap.size ∧ ∀ (j : Nat) op, os[j]? = some op →
    (w.cell? ⟨b, o + j * 6, none⟩ = some (.int .i64 op.kind) ∧ w.cell? ⟨b, o + j * 6 + 1, none⟩ = some (.int .i64 op.which) ∧ w.cell? ⟨b, o + j * 6 + 2, none⟩ = some (.int .i64 op.n) ∧
    w.cell? ⟨b, o + j * 6 + 3, none⟩ = some (.string op.name) ∧ w.cell? ⟨b, o + j * 6 + 4, none⟩ = some (.string op.to) ∧ w.cell? ⟨b, o + j * 6 + 5, none⟩ = some (.slice op.a op.l.length op.c)) ∧ BsIn B w op.a op.l op.c ∧ op.l.length ≤ 140737488351232
theorem BsIn.below {B : Nat} {w w' : World} {a : Option Addr} {l : List UInt8} {c : Nat} (h : BsIn B w a l c) (hb : Below w.heap.size w w') : BsIn B w' a l c :=
  ⟨h.1.below hb, h.2.imp id fun ⟨g, o, h1, h2, h3, h4⟩ => ⟨g, o, h1, h2, Nat.lt_of_lt_of_le h3 hb.size, fun j x hx => (hb.cell (p := ⟨g, _, none⟩) h3).trans (h4 j x hx)⟩⟩
theorem BsIn.wider {B B' : Nat} {w : World} {a : Option Addr} {l : List UInt8} {c : Nat} (h : BsIn B w a l c) (hB : B ≤ B') : BsIn B' w a l c :=
  ⟨h.1, h.2.imp id fun ⟨g, o, h1, h2, h3, h4⟩ => ⟨g, o, h1, Nat.lt_of_lt_of_le h2 hB, h3, h4⟩⟩
theorem BsIn.keep {B : Nat} {w w' : World} {a : Option Addr} {l : List UInt8} {c : Nat} (h : BsIn B w a l c) (hk : Keep [B] w w') : BsIn B w' a l c := by
  refine ⟨⟨h.1.1, h.1.2.1, ?_⟩, ?_⟩
  all_goals rcases h.2 with h0 | ⟨g, o, h1, h2, h3, h4⟩
  · exact .inl h0
  · exact .inr ⟨g, o, h1, Nat.zero_le _, Nat.lt_of_lt_of_le h3 hk.size, fun j x hx => (hk.cell (p := ⟨g, o + j, none⟩) h3 (by simp; omega)).trans (h4 j x hx)⟩
  · exact .inl h0
  · exact .inr ⟨g, o, h1, h2, Nat.lt_of_lt_of_le h3 hk.size, fun j x hx => (hk.cell (p := ⟨g, o + j, none⟩) h3 (by simp; omega)).trans (h4 j x hx)⟩
theorem Script.below {B B' : Nat} {w w' : World} {a : Option Addr} {os : List OpV} (h : Script B w a os) (hb : Below w.heap.size w w') (hB : B ≤ B') : Script B' w' a os :=
  h.imp id fun ⟨b, o, h1, h2, h3, h4⟩ => ⟨b, o, h1, Nat.lt_of_lt_of_le h2 hB, Nat.lt_of_lt_of_le h3 hb.size, fun j op hj => by
    obtain ⟨⟨c0, c1, c2, c3, c4, c5⟩, c6, c7⟩ := h4 j op hj
    exact ⟨⟨(hb.cell (p := ⟨b, _, none⟩) h3).trans c0, (hb.cell (p := ⟨b, _, none⟩) h3).trans c1, (hb.cell (p := ⟨b, _, none⟩) h3).trans c2, (hb.cell (p := ⟨b, _, none⟩) h3).trans c3, (hb.cell (p := ⟨b, _, none⟩) h3).trans c4, (hb.cell (p := ⟨b, _, none⟩) h3).trans c5⟩, BsIn.wider (BsIn.below c6 hb) hB, c7⟩⟩
theorem Script.keep {B : Nat} {w w' : World} {a : Option Addr} {os : List OpV} (h : Script B w a os) (hk : Keep [B] w w') : Script B w' a os :=
  h.imp id fun ⟨b, o, h1, h2, h3, h4⟩ => ⟨b, o, h1, h2, Nat.lt_of_lt_of_le h3 hk.size, fun j op hj => by
    have hn : b ∉ [B] := by simp; omega
    obtain ⟨⟨c0, c1, c2, c3, c4, c5⟩, c6, c7⟩ := h4 j op hj
    exact ⟨⟨(hk.cell (p := ⟨b, _, none⟩) h3 hn).trans c0, (hk.cell (p := ⟨b, _, none⟩) h3 hn).trans c1, (hk.cell (p := ⟨b, _, none⟩) h3 hn).trans c2, (hk.cell (p := ⟨b, _, none⟩) h3 hn).trans c3, (hk.cell (p := ⟨b, _, none⟩) h3 hn).trans c4, (hk.cell (p := ⟨b, _, none⟩) h3 hn).trans c5⟩, BsIn.keep c6 hk, c7⟩⟩

theorem box5 {w w2 : World} {mb : Nat} {v0 v1 v2 v3 v4 v5 : Value} {t : TypeId} (hm : mb < w.heap.size) (hk : Keep [mb] (w.alloc (.cells #[v0, v1, v2, v3, v4, v5] t)) w2) : w2.cell? ⟨w.heap.size, 5, none⟩ = some v5 := by
  have h : w2.heap[w.heap.size]? = some (.cells #[v0, v1, v2, v3, v4, v5] t (0, 0)) := (hk.block _ (by simp) (by simp; omega)).trans (heap_alloc_new _ _)
  rw [Lib.cell_of_heap h]; rfl

set_option maxHeartbeats 8000000 in
set_option maxRecDepth 100000 in
theorem safe (a : Option Addr) (c : Nat) (os : List OpV) (crash : Int) (w : World) {aN aF aG : Addr} (he : Errs w aN aF aG) (hos : Script w.heap.size w a os) (hlen : os.length ≤ 140737488351232) :
    Calls Tryd.prog 7 #[.slice a os.length c, .int .i64 crash] w fun e w' => e = .returned (.bool true) ∧ Below w.heap.size w w' := by
  have hq := Lib.hid he.lt
  go_enter Tryd.func7, Tryd.ntmps7
  go_wp2_with fail
  refine (DiskG.alive _ he).mono ?_
  rintro e w0 ⟨rfl, hb0⟩
  have he0 := he.below hb0
  have TL := Lib.hid (show ∀ k ∈ [w0.heap.size], top < k by have := he0.lt; simpa using this)
  have hq0 := Lib.hid he0.lt
  go_wp2_with fail
  refine (DiskB.new _ hq0.out).mono ?_
  rintro e w1 ⟨rfl, hd1, hb1⟩
  have he1 := he0.below hb1
  have hos1 : Script w0.heap.size w1 a os := ((hos.below hb0 hb0.size).below hb1 (Nat.le_refl _))
  have K1 := Keep.of_below hb1 [w0.heap.size]
  clear hos he
  go_wp2_with fail
  go_loopg [6, 7, 8, 9, 21] os.length (fun g v6 v7 v8 v9 i wr => ∃ (k : Nat) (th kp : Bool) (nl sl : List UInt8) (na sa : Option Addr) (nc sc : Nat) (M : Dp.Files), k + g = os.length ∧ i = .int .i64 k ∧ v7 = .bool kp ∧ v8 = .bool th ∧ v6 = .slice sa sl.length sc ∧ v9 = .slice na nl.length nc ∧
    Rel M th kp nl sl ∧ BsIn w0.heap.size wr na nl nc ∧ BsIn w0.heap.size wr sa sl sc ∧ nl.length ≤ 140737488351232 ∧ sl.length ≤ 140737488351232 ∧ Drive (w0.heap.size + 2) (w0.heap.size + 1) w0.heap.size wr M false 0 ∧ Keep [w0.heap.size] w1 wr)
  case atStart => 
    exact ⟨0, false, false, [], [], none, none, 0, 0, [], by omega, rfl, rfl, rfl, rfl, rfl, Rel.start, ⟨Bs.nil _ _ _ _ fun _ => rfl, .inl rfl⟩, ⟨Bs.nil _ _ _ _ fun _ => rfl, .inl rfl⟩, by simp, by simp, hd1, Keep.refl _ _⟩
  case round =>
    obtain ⟨k, th, kp, nl, sl, na, sa, nc, sc, M, hkg, rfl, rfl, rfl, rfl, rfl, hR, hN, hS, hnl, hsl, hdr, hkr⟩ := hrel
    have HG := Lib.hid hkg
    have hkx : k ≤ os.length := by omega
    clear hkg
    have her := he1.keep hkr TL.out
    have hosr := hos1.keep hkr
    by_cases hlt : k < os.length
    · obtain ⟨op, hop⟩ : ∃ op, os[k]? = some op := ⟨os[k], List.getElem?_eq_getElem hlt⟩
      rcases hosr with h | ⟨b, o, rfl, hbB, hbw, h3⟩
      · rw [h] at hlt; simp at hlt
      obtain ⟨⟨c0, c1, c2, c3, c4, c5⟩, c6, c7⟩ := h3 k op hop
      clear h3 hop hos1
      obtain ⟨kind, which, num, name, to, oa, ol, oc⟩ := op
      simp only at c0 c1 c2 c3 c4 c5 c6 c7
      have hmz := hdr.names_lt.2
      have hdA := fun x => hdr.below ((Below.refl _ wr).alloc (Nat.le_refl _) x)
      have heA := fun x => her.below ((Below.refl _ wr).alloc (Nat.le_refl _) x)
      have hbA := fun x => (BsIn.below c6 ((Below.refl _ wr).alloc (Nat.le_refl _) x)).1
      have HN := Lib.hid hN; clear hN
      have HS := Lib.hid hS; clear hS
      have HC6 := Lib.hid c6; clear c6
      by_cases hk1 : kind = 1
      · subst hk1
        by_cases hc : (k : Int) = crash
        · have hcB : ((k : Int) == crash) = true := by simpa using hc
          clear hc
          go_wp2_with (first
            | (go_at_call 35; refine (writeR ol hR c7 (hdA _) (heA _) (hbA _)).mono ?_; rintro e w2 ⟨rfl, ⟨M2, hR2, hd2⟩, hk2⟩; have q5 := box5 hmz hk2)
            | (go_at_call 38; refine (crashR hR2 hd2).mono ?_; rintro e w3 ⟨rfl, ⟨M3, hR3, hd3⟩, hk3⟩))
          have KK := ((((Keep.refl [w0.heap.size] wr).alloc _).trans hk2).trans hk3)
          go_roundg (gk - 1)
          case measure => have := HG.out; omega
          case rel =>
            refine ⟨k + 1, kp, kp, sl, sl, sa, sa, sc, sc, M3, ?_, by go_num, rfl, rfl, rfl, rfl, hR3, BsIn.keep HS.out KK, BsIn.keep HS.out KK, hsl, hsl, hd3, hkr.trans KK⟩
            have := HG.out; omega
        · have hcB : ((k : Int) == crash) = false := by simpa using hc
          clear hc
          go_wp2_with (go_at_call 35; refine (writeR ol hR c7 (hdA _) (heA _) (hbA _)).mono ?_; rintro e w2 ⟨rfl, ⟨M2, hR2, hd2⟩, hk2⟩; have q5 := box5 hmz hk2)
          have KK := (((Keep.refl [w0.heap.size] wr).alloc _).trans hk2)
          go_roundg (gk - 1)
          case measure => have := HG.out; omega
          case rel =>
            refine ⟨k + 1, true, kp, ol, sl, oa, sa, oc, sc, M2, ?_, by go_num, rfl, rfl, rfl, rfl, hR2, BsIn.keep HC6.out KK, BsIn.keep HS.out KK, c7, hsl, hd2, hkr.trans KK⟩
            have := HG.out; omega
      by_cases hk2 : kind = 2
      · subst hk2
        by_cases hc : (k : Int) = crash
        · have hcB : ((k : Int) == crash) = true := by simpa using hc
          clear hc
          cases th
          · go_wp2_with (first
              | (go_at_call 36; refine (sync0 hR (hdA _) (heA _)).mono ?_; rintro e w2 ⟨rfl, ⟨M2, hR2, hd2⟩, hk2⟩; have q5 := box5 hmz hk2)
              | (go_at_call 38; refine (crashR hR2 hd2).mono ?_; rintro e w3 ⟨rfl, ⟨M3, hR3, hd3⟩, hk3⟩))
            have KK := ((((Keep.refl [w0.heap.size] wr).alloc _).trans hk2).trans hk3)
            go_roundg (gk - 1)
            case measure => have := HG.out; omega
            case rel =>
              refine ⟨k + 1, false, kp, sl, sl, sa, sa, sc, sc, M3, ?_, by go_num, rfl, rfl, rfl, rfl, hR3, BsIn.keep HS.out KK, BsIn.keep HS.out KK, hsl, hsl, hd3, hkr.trans KK⟩
              have := HG.out; omega
          · go_wp2_with (first
              | (go_at_call 36; refine (sync1 hR (hdA _) (heA _)).mono ?_; rintro e w2 ⟨rfl, ⟨M2, hR2, hd2⟩, hk2⟩; have q5 := box5 hmz hk2)
              | (go_at_call 38; refine (crashR hR2 hd2).mono ?_; rintro e w3 ⟨rfl, ⟨M3, hR3, hd3⟩, hk3⟩))
            have KK := ((((Keep.refl [w0.heap.size] wr).alloc _).trans hk2).trans hk3)
            go_roundg (gk - 1)
            case measure => have := HG.out; omega
            case rel =>
              refine ⟨k + 1, true, true, nl, nl, na, na, nc, nc, M3, ?_, by go_num, rfl, rfl, rfl, rfl, hR3, BsIn.keep HN.out KK, BsIn.keep HN.out KK, hnl, hnl, hd3, hkr.trans KK⟩
              have := HG.out; omega
        · have hcB : ((k : Int) == crash) = false := by simpa using hc
          clear hc
          cases th
          · go_wp2_with (go_at_call 36; refine (sync0 hR (hdA _) (heA _)).mono ?_; rintro e w2 ⟨rfl, ⟨M2, hR2, hd2⟩, hk2⟩; have q5 := box5 hmz hk2)
            have KK := (((Keep.refl [w0.heap.size] wr).alloc _).trans hk2)
            go_roundg (gk - 1)
            case measure => have := HG.out; omega
            case rel =>
              refine ⟨k + 1, false, kp, nl, sl, na, sa, nc, sc, M2, ?_, by go_num, rfl, rfl, rfl, rfl, hR2, BsIn.keep HN.out KK, BsIn.keep HS.out KK, hnl, hsl, hd2, hkr.trans KK⟩
              have := HG.out; omega
          · go_wp2_with (go_at_call 36; refine (sync1 hR (hdA _) (heA _)).mono ?_; rintro e w2 ⟨rfl, ⟨M2, hR2, hd2⟩, hk2⟩; have q5 := box5 hmz hk2)
            have KK := (((Keep.refl [w0.heap.size] wr).alloc _).trans hk2)
            go_roundg (gk - 1)
            case measure => have := HG.out; omega
            case rel =>
              refine ⟨k + 1, true, true, nl, nl, na, na, nc, nc, M2, ?_, by go_num, rfl, rfl, rfl, rfl, hR2, BsIn.keep HN.out KK, BsIn.keep HN.out KK, hnl, hnl, hd2, hkr.trans KK⟩
              have := HG.out; omega
      by_cases hk4 : kind = 4
      · subst hk4
        by_cases hc : (k : Int) = crash
        · have hcB : ((k : Int) == crash) = true := by simpa using hc
          clear hc
          cases th
          · go_wp2_with (first
              | (go_at_call 37; refine (delete0 hR (hdA _) (heA _)).mono ?_; rintro e w2 ⟨rfl, ⟨M2, hR2, hd2⟩, hk2⟩; have q5 := box5 hmz hk2)
              | (go_at_call 38; refine (crashR hR2 hd2).mono ?_; rintro e w3 ⟨rfl, ⟨M3, hR3, hd3⟩, hk3⟩))
            have KK := ((((Keep.refl [w0.heap.size] wr).alloc _).trans hk2).trans hk3)
            go_roundg (gk - 1)
            case measure => have := HG.out; omega
            case rel =>
              refine ⟨k + 1, false, false, sl, sl, sa, sa, sc, sc, M3, ?_, by go_num, rfl, rfl, rfl, rfl, hR3, BsIn.keep HS.out KK, BsIn.keep HS.out KK, hsl, hsl, hd3, hkr.trans KK⟩
              have := HG.out; omega
          · go_wp2_with (first
              | (go_at_call 37; refine (delete1 hR (hdA _) (heA _)).mono ?_; rintro e w2 ⟨rfl, ⟨M2, hR2, hd2⟩, hk2⟩; have q5 := box5 hmz hk2)
              | (go_at_call 38; refine (crashR hR2 hd2).mono ?_; rintro e w3 ⟨rfl, ⟨M3, hR3, hd3⟩, hk3⟩))
            have KK := ((((Keep.refl [w0.heap.size] wr).alloc _).trans hk2).trans hk3)
            go_roundg (gk - 1)
            case measure => have := HG.out; omega
            case rel =>
              refine ⟨k + 1, false, false, sl, sl, sa, sa, sc, sc, M3, ?_, by go_num, rfl, rfl, rfl, rfl, hR3, BsIn.keep HS.out KK, BsIn.keep HS.out KK, hsl, hsl, hd3, hkr.trans KK⟩
              have := HG.out; omega
        · have hcB : ((k : Int) == crash) = false := by simpa using hc
          clear hc
          cases th
          · go_wp2_with (go_at_call 37; refine (delete0 hR (hdA _) (heA _)).mono ?_; rintro e w2 ⟨rfl, ⟨M2, hR2, hd2⟩, hk2⟩; have q5 := box5 hmz hk2)
            have KK := (((Keep.refl [w0.heap.size] wr).alloc _).trans hk2)
            go_roundg (gk - 1)
            case measure => have := HG.out; omega
            case rel =>
              refine ⟨k + 1, false, false, nl, sl, na, sa, nc, sc, M2, ?_, by go_num, rfl, rfl, rfl, rfl, hR2, BsIn.keep HN.out KK, BsIn.keep HS.out KK, hnl, hsl, hd2, hkr.trans KK⟩
              have := HG.out; omega
          · go_wp2_with (go_at_call 37; refine (delete1 hR (hdA _) (heA _)).mono ?_; rintro e w2 ⟨rfl, ⟨M2, hR2, hd2⟩, hk2⟩; have q5 := box5 hmz hk2)
            have KK := (((Keep.refl [w0.heap.size] wr).alloc _).trans hk2)
            go_roundg (gk - 1)
            case measure => have := HG.out; omega
            case rel =>
              refine ⟨k + 1, false, false, nl, sl, na, sa, nc, sc, M2, ?_, by go_num, rfl, rfl, rfl, rfl, hR2, BsIn.keep HN.out KK, BsIn.keep HS.out KK, hnl, hsl, hd2, hkr.trans KK⟩
              have := HG.out; omega
      have b1 : (kind == 1) = false := by simpa using hk1
      have b2 : (kind == 2) = false := by simpa using hk2
      have b4 : (kind == 4) = false := by simpa using hk4
      clear hk1 hk2 hk4
      by_cases hc : (k : Int) = crash
      · have hcB : ((k : Int) == crash) = true := by simpa using hc
        clear hc
        cases th
        · go_wp2_with (go_at_call 38; refine (crashR hR (hdA _)).mono ?_; rintro e w3 ⟨rfl, ⟨M3, hR3, hd3⟩, hk3⟩)
          have KK := (((Keep.refl [w0.heap.size] wr).alloc _).trans hk3)
          go_roundg (gk - 1)
          case measure => have := HG.out; omega
          case rel =>
            refine ⟨k + 1, false, kp, sl, sl, sa, sa, sc, sc, M3, ?_, by go_num, rfl, rfl, rfl, rfl, hR3, BsIn.keep HS.out KK, BsIn.keep HS.out KK, hsl, hsl, hd3, hkr.trans KK⟩
            have := HG.out; omega
        · go_wp2_with (go_at_call 38; refine (crashR hR (hdA _)).mono ?_; rintro e w3 ⟨rfl, ⟨M3, hR3, hd3⟩, hk3⟩)
          have KK := (((Keep.refl [w0.heap.size] wr).alloc _).trans hk3)
          go_roundg (gk - 1)
          case measure => have := HG.out; omega
          case rel =>
            refine ⟨k + 1, kp, kp, sl, sl, sa, sa, sc, sc, M3, ?_, by go_num, rfl, rfl, rfl, rfl, hR3, BsIn.keep HS.out KK, BsIn.keep HS.out KK, hsl, hsl, hd3, hkr.trans KK⟩
            have := HG.out; omega
      · have hcB : ((k : Int) == crash) = false := by simpa using hc
        clear hc
        cases th
        · go_wp2_with fail
          go_roundg (gk - 1)
          case measure => have := HG.out; omega
          case rel =>
            refine ⟨k + 1, false, kp, nl, sl, na, sa, nc, sc, M, ?_, by go_num, rfl, rfl, rfl, rfl, hR, BsIn.keep HN.out ((Keep.refl [w0.heap.size] wr).alloc _), BsIn.keep HS.out ((Keep.refl [w0.heap.size] wr).alloc _), hnl, hsl, (hdA _), hkr.trans ((Keep.refl [w0.heap.size] wr).alloc _)⟩
            have := HG.out; omega
        · go_wp2_with fail
          go_roundg (gk - 1)
          case measure => have := HG.out; omega
          case rel =>
            refine ⟨k + 1, true, kp, nl, sl, na, sa, nc, sc, M, ?_, by go_num, rfl, rfl, rfl, rfl, hR, BsIn.keep HN.out ((Keep.refl [w0.heap.size] wr).alloc _), BsIn.keep HS.out ((Keep.refl [w0.heap.size] wr).alloc _), hnl, hsl, (hdA _), hkr.trans ((Keep.refl [w0.heap.size] wr).alloc _)⟩
            have := HG.out; omega
    · obtain rfl : k = os.length := by omega
      clear hosr hos1
      have hmz := hdr.names_lt.2
      have HN := Lib.hid hN; clear hN
      have HS := Lib.hid hS; clear hS
      go_wp2_with fail
      refine (crashR hR hdr).mono ?_
      rintro e w2 ⟨rfl, ⟨M2, hR2, hd2⟩, hk2⟩
      have he2 := her.keep hk2 TL.out
      have KB := fun (w3 : World) (hb : Below w2.heap.size w2 w3) => Keep.below hb0 ((K1.trans (hkr.trans hk2)).trans (Keep.of_below hb _)) (by simp; exact hb0.size)
      cases th
      · go_wp2_with (go_at_call 39; refine (read0 (kp := kp) hR2 hsl hd2 he2).mono ?_; rintro e w3 ⟨⟨ya, yn, yc, rfl⟩, hb3⟩; have BB := KB _ hb3)
        go_ret
        exact ⟨rfl, BB⟩
      · cases kp
        · go_wp2_with (go_at_call 39; refine (read0 (kp := false) hR2 hsl hd2 he2).mono ?_; rintro e w3 ⟨⟨ya, yn, yc, rfl⟩, hb3⟩; have BB := KB _ hb3)
          go_ret
          exact ⟨rfl, BB⟩
        · go_wp2_with (go_at_call 39; refine (read1 (kp := true) hR2 hsl hd2 he2).mono ?_; rintro e w3 ⟨⟨ya, yc, rfl, hbs⟩, hb3⟩; have BB := KB _ hb3; have k1 := DiskG.to_string hbs; have k2 := DiskG.to_string ((BsIn.keep HS.out hk2).1.below hb3))
          go_ret
          exact ⟨rfl, BB⟩
end Go.Proofs.YtmimkgfkicgfiaaDoor.DiskL
