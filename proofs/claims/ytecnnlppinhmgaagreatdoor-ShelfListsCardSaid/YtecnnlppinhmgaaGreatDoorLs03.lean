/-
  The walk of the law ShelfLists.
-/
import Derived.Test.YtecnnlppinhmgaaGreatDoorSe03
import Derived.Test.YtecnnlppinhmgaaGreatDoorSh04
import Derived.Test.YtecnnlppinhmgaaGreatDoorLs02
namespace Go.Proofs.YtecnnlppinhmgaaGreatDoor.LsB
open Go.RowKit Go.Proofs.YtecnnlppinhmgaaGreatDoor Go.Proofs.YtecnnlppinhmgaaGreatDoor.HtW Go.Proofs.YtecnnlppinhmgaaGreatDoor.DiskB Go.Proofs.YtecnnlppinhmgaaGreatDoor.SfA Go.Proofs.YtecnnlppinhmgaaGreatDoor.SfB Go.Proofs.YtecnnlppinhmgaaGreatDoor.SfC Go.Proofs.YtecnnlppinhmgaaGreatDoor.IdBox Go.Proofs.YtecnnlppinhmgaaGreatDoor.SfP Go.Proofs.YtecnnlppinhmgaaGreatDoor.SfJ Go.Proofs.YtecnnlppinhmgaaGreatDoor.SfK Go.Proofs.YtecnnlppinhmgaaGreatDoor.IdR Go.Proofs.YtecnnlppinhmgaaGreatDoor.LsP Go.Proofs.YtecnnlppinhmgaaGreatDoor.LsA

open Go.Lib Go.Sort SfM in
/-- a sorted list of ids without repeats rises -/
theorem up_next {ks : List Id3} (hn : ks.Nodup) {j : Nat} {p q : Id3} (hp : (srt ks)[j]? = some p) (hq : (srt ks)[j + 1]? = some q) : Lt p q := by
  have h1 : (srt ks).Pairwise fun x y => (!ltOf cf y x) = true := List.pairwise_mergeSort (le := fun x y => !ltOf cf y x) (fun a b c h1 h2 => by
    simp only [Bool.not_eq_true', lt_cf_false] at *
    unfold Lt at *
    omega) (fun a b => by
    have h : ltOf cf b a = false ∨ ltOf cf a b = false := by
      rw [lt_cf_false, lt_cf_false]
      unfold Lt
      omega
    rcases h with h | h <;> simp [h]) ks
  obtain ⟨hj, rfl⟩ := List.getElem?_eq_some_iff.1 hp
  obtain ⟨hj1, rfl⟩ := List.getElem?_eq_some_iff.1 hq
  have h2 := List.pairwise_iff_getElem.1 h1 j (j + 1) hj hj1 (by omega)
  have h3 : (srt ks).Nodup := (srt_perm ks).nodup_iff.2 hn
  have h4 : (srt ks)[j] ≠ (srt ks)[j + 1] := List.pairwise_iff_getElem.1 h3 j (j + 1) hj hj1 (by omega)
  simp only [Bool.not_eq_true', lt_cf_false] at h2
  generalize (srt ks)[j] = p at *
  generalize (srt ks)[j + 1] = q at *
  obtain ⟨a, b, c⟩ := p
  obtain ⟨x, y, z⟩ := q
  unfold Lt at *
  simp only [ne_eq, Id3.mk.injEq] at h4
  dsimp only at *
  omega
theorem ownI_empty {w : World} {base : Nat} (hb : base ≤ w.heap.size) : OwnI (w.alloc (.cells #[] 23)) base (.slice (some ⟨w.heap.size, 0, none⟩) 0 0) [] :=
  ⟨World.ownsRow_made w #[] 0 hb (by simp [maxLen]) rfl, fun g hg => by
    obtain rfl : w.heap.size = g := by simpa [Value.ownBlock] using hg
    exact ⟨#[], heap_alloc_new _ _, by simp⟩⟩
/-- how far the row was searched for i -/
def Found (L : List Id3) (i : Id3) (j at_ : Nat) (th : Bool) : Prop := (th = false ∧ i ∉ L.take j) ∨ (th = true ∧ L[at_]? = some i)
theorem found_more {L : List Id3} {i q : Id3} {j at_ : Nat} {th : Bool} (h : Found L i j at_ th) (hq : L[j]? = some q) (hne : q ≠ i) : Found L i (j + 1) at_ th := by
  rcases h with ⟨h1, h2⟩ | h
  · refine .inl ⟨h1, ?_⟩
    rw [List.take_add_one, hq]
    simp [h2, Ne.symm hne]
  · exact .inr h
theorem eql_ids (q i : Id3) (b : Bool) (hb : decide (q = i) = b) (W : World) : (binOp .eql 23 (.agg #[.int .i64 (q.a : Int), .int .i64 (q.b : Int), .int .i64 (q.c : Int)]) (.agg #[.int .i64 (i.a : Int), .int .i64 (i.b : Int), .int .i64 (i.c : Int)])).run Tryz.prog W = .ok (.bool b) W := by
  have h := eqlId (q.a : Int) (q.b : Int) (q.c : Int) i.a i.b i.c W
  rw [idB_eq, hb] at h
  exact h
theorem deM_in {M : Dp.Files} {L : List Id3} {i : Id3} (h : Fs M L) (hi : i ∈ L) (hg : i.good) : deM M i.nm = Dp.del M i.nm := by
  unfold deM
  rw [if_pos (ask_in h hi hg)]
theorem deM_out {M : Dp.Files} {L : List Id3} {i : Id3} (h : Fs M L) (hi : i ∉ L) (hg : i.good) : deM M i.nm = M := by
  unfold deM
  rw [if_neg (by rw [ask_out h hi hg]; decide)]
theorem one_bs (w : World) : Bs (w.alloc (.cells #[.int .u8 7] 5)) (some ⟨w.heap.size, 0, none⟩) [7] 1 := by
  refine ⟨Nat.le_refl _, (fun h => by cases h), .inr ⟨_, 0, rfl, by simp, fun j x hj => ?_⟩⟩
  match j, hj with
  | 0, hj => simp at hj; subst hj; rw [Lib.cell_of_heap (heap_alloc_new _ _)]; rfl
theorem stamp_nums {s : Fp.Stamp} (h : s.fits) : ∀ v ∈ [s.node, s.boot, s.seq, s.shard, s.size], v < 9223372036854775808 := by
  obtain ⟨h1, h2, h3, h4, h5⟩ := h
  intro v hv
  simp only [List.mem_cons, List.not_mem_nil, or_false] at hv
  rcases hv with rfl | rfl | rfl | rfl | rfl <;> omega
set_option maxHeartbeats 16000000 in
set_option maxRecDepth 100000 in
theorem lists (xs : List (Int × Int × Int)) (gs : List Bool) {a1 a2 : Option Addr} (k1 k2 : Nat) (w : World) {aL aB aD aN aF aG : Addr} (hE : Env w aL aB aD aN aF aG) (hmx : SfI.Mx w) (hxs : In3 w a1 xs) (hgs : InB w a2 gs) (_hx1 : xs.length ≤ k1) (_hg1 : gs.length ≤ k2) (hxl : xs.length ≤ 9223372036854775807) (_hgl : gs.length ≤ 9223372036854775807) :
    Calls Tryz.prog 6 #[.slice a1 xs.length k1, .slice a2 gs.length k2] w fun e w' => e = .returned (.bool true) ∧ Below w.heap.size w w' := by
  have KA := Lib.hid (SfD.alive w hE)
  have HE := Lib.hid hE
  have HMX := Lib.hid hmx
  have HXS := Lib.hid hxs
  have HGS := Lib.hid hgs
  clear hE hmx hxs hgs
  go_enter Tryz.func6, Tryz.ntmps6
  go_upto_region 6 with (first
    | (go_at_call 7; refine KA.out.mono ?_; rintro e w2 ⟨rfl, hb2⟩; have HB2 := Lib.hid hb2; have KN := Lib.hid (SfA.new 3 (by decide) w2 (HE.out.below hb2).errs.lt); clear hb2)
    | (go_at_call 8; refine KN.out.mono ?_; rintro e w3 ⟨sp, rfl, hS3, hsp, hD3, hb3⟩; have HS3 := Lib.hid hS3; have HSP := Lib.hid hsp; have HD3 := Lib.hid hD3; have HB3 := Lib.hid (HB2.out.trans (hb3.mono HB2.out.size)); clear hb3 hS3 hsp hD3))
  obtain ⟨mb, hmb⟩ : ∃ mb, mb = w2.heap.size := ⟨_, rfl⟩
  rw [← hmb] at HS3 HSP HD3
  have HMB := Lib.hid (show w.heap.size ≤ mb by rw [hmb]; exact HB2.out.size)
  have HNE := Lib.hid (show sp ≠ mb by have := HSP.out; omega)
  obtain ⟨w4, hw4, hb4⟩ : ∃ w4, w4 = w3.alloc (.cells #[] 23) ∧ Below w3.heap.size w3 w4 := ⟨_, rfl, (Below.refl _ _).alloc (Nat.le_refl _) _⟩
  have HL4 := Lib.hid (show Ls sp mb w w4 (.slice (some ⟨w3.heap.size, 0, none⟩) 0 0) [] [] from ⟨HS3.out.below hb4, HD3.out.below hb4, Fs.nil, List.nodup_nil, (fun i h => by cases h), by rw [hw4]; exact ownI_empty HB3.out.size, HB3.out.trans (hb4.mono HB3.out.size)⟩)
  clear hmb
  go_wp2_with fail
  rw [← hw4]
  clear hw4 hb4
  go_loopg [7, 35] xs.length (fun g v7 v35 wr => ∃ (k : Nat) (L : List Id3) (M : Dp.Files), k + g = xs.length ∧ v35 = .int .i64 (k : Int) ∧ L.length ≤ k ∧ L.length ≤ 61 ∧ Hid (Ls sp mb w wr v7 L M))
  case atStart => exact ⟨0, [], [], by omega, rfl, by simp, by simp, HL4⟩
  case round =>
    obtain ⟨k, L, M, hkg, rfl, hLk, hL61, HL⟩ := hrel
    obtain ⟨av, cv, rfl, hLc⟩ := ownI_form HL.out.ow
    have HG := Lib.hid hkg
    have hkx : k ≤ xs.length := by omega
    clear hkg
    have HLc := Lib.hid hLc
    clear hLc
    by_cases hlt : k < xs.length
    · obtain ⟨t, ht⟩ : ∃ t, xs[k]? = some t := ⟨_, List.getElem?_eq_getElem hlt⟩
      obtain ⟨x, y, z⟩ := t
      obtain ⟨b, o, rfl, hbl, p0, p1, p2⟩ := (HXS.out.below HL.out.bw).at ht
      simp only at p0 p1 p2
      have z0 : (0 : Int) ≤ (k : Int) := by omega
      have z1 : (k : Int) < (xs.length : Int) := by omega
      obtain ⟨w5, hw5, hb5, hx5⟩ : ∃ w5, w5 = wr.alloc (.cells #[.int .i64 x, .int .i64 y, .int .i64 z] 23) ∧ Below wr.heap.size wr w5 ∧ Ix w5 wr.heap.size x y z := ⟨_, rfl, (Below.refl _ _).alloc (Nat.le_refl _) _, heap_alloc_new _ _⟩
      have HL5 := Lib.hid (HL.out.below hb5)
      have HX5 := Lib.hid hx5
      have KG := Lib.hid (fun W => FrK.goodId x y z W)
      obtain ⟨gi, hgi⟩ : ∃ gi, gi = wr.heap.size := ⟨_, rfl⟩
      have HGI := Lib.hid hgi
      obtain ⟨c0, c1, c2⟩ := hx5.cells
      clear hb5 hx5 ht
      cases hg : FrK.goodB x y z
      · rw [hg] at KG
        clear hg
        go_wp2_with (first
          | (rw [← hw5]; go_at_call 9; refine (KG.out _).mono ?_; rintro e w6 ⟨rfl, hb6⟩))
        have HL6 := Lib.hid (HL5.out.below hb6)
        go_roundg (xs.length - (k + 1))
        case measure => have := HG.out; omega
        case rel => exact ⟨k + 1, L, M, by omega, by go_num, by omega, hL61, HL6⟩
      · rw [hg] at KG
        by_cases h60 : 60 < k
        · have e1 : decide ((k : Int) > 60) = true := decide_eq_true (by omega)
          have e2 : decide ((60 : Int) < (k : Int)) = true := decide_eq_true (by omega)
          clear hg h60
          go_wp2_with (first
            | (rw [← hw5]; go_at_call 9; refine (KG.out _).mono ?_; rintro e w6 ⟨rfl, hb6⟩))
          have HL6 := Lib.hid (HL5.out.below hb6)
          go_roundg (xs.length - (k + 1))
          case measure => have := HG.out; omega
          case rel => exact ⟨k + 1, L, M, by omega, by go_num, by omega, hL61, HL6⟩
        · have e1 : decide ((k : Int) > 60) = false := decide_eq_false (by omega)
          have e2 : decide ((60 : Int) < (k : Int)) = false := decide_eq_false (by omega)
          have hgb : 0 ≤ x ∧ x < 16 ∧ 0 ≤ y ∧ y ≤ 1099511627776 ∧ 0 ≤ z ∧ z ≤ 1099511627776 := by unfold FrK.goodB at hg; exact of_decide_eq_true hg
          obtain ⟨i, rfl, rfl, rfl, hgd⟩ : ∃ i : Id3, x = (i.a : Int) ∧ y = (i.b : Int) ∧ z = (i.c : Int) ∧ i.good := by
            refine ⟨⟨x.toNat, y.toNat, z.toNat⟩, by show x = ((x.toNat : Nat) : Int); omega, by show y = ((y.toNat : Nat) : Int); omega, by show z = ((z.toNat : Nat) : Int); omega, ?_⟩
            unfold Id3.good
            rw [show (((⟨x.toNat, y.toNat, z.toNat⟩ : Id3).a : Nat) : Int) = x by show ((x.toNat : Nat) : Int) = x; omega, show (((⟨x.toNat, y.toNat, z.toNat⟩ : Id3).b : Nat) : Int) = y by show ((y.toNat : Nat) : Int) = y; omega, show (((⟨x.toNat, y.toNat, z.toNat⟩ : Id3).c : Nat) : Int) = z by show ((z.toNat : Nat) : Int) = z; omega]
            exact hg
          have HGD := Lib.hid hgd
          clear hg hgb hgd
          go_upto_region 13 with (first
            | (rw [← hw5]; go_at_call 9; refine (KG.out _).mono ?_; rintro e w6 ⟨rfl, hb6⟩))
          have HL6 := Lib.hid (HL5.out.below hb6)
          have HX6 := Lib.hid (HX5.out.below hb6)
          rw [← hgi] at HX6 ⊢
          clear hb6 hw5 c0 c1 c2 p0 p1 p2 hbl hgi
          go_loopg [10, 11, 49] L.length (fun g v10 v11 v49 wj => ∃ (j at_ : Nat) (th : Bool), j + g = L.length ∧ v49 = .int .i64 (j : Int) ∧ v10 = .int .i64 (at_ : Int) ∧ v11 = .bool th ∧ Hid (Found L i j at_ th) ∧ Hid (Below w6.heap.size w6 wj))
          case atStart => exact ⟨0, 0, false, by omega, rfl, rfl, rfl, Lib.hid (.inl ⟨rfl, by simp⟩), Lib.hid (Below.refl _ _)⟩
          case round =>
            obtain ⟨j, at_, th, hjg, rfl, rfl, rfl, HF, HBj⟩ := hrel
            have HJ := Lib.hid hjg
            have hjx : j ≤ L.length := by omega
            clear hjg
            have HLj := Lib.hid (HL6.out.below HBj.out)
            have HXj := Lib.hid (HX6.out.below HBj.out)
            by_cases hjl : j < L.length
            · obtain ⟨q, hq⟩ : ∃ q, L[j]? = some q := ⟨_, List.getElem?_eq_getElem hjl⟩
              obtain ⟨gr, cr, er, -, hgr, -, y0, y1, y2⟩ := HLj.out.at hq
              cases er
              obtain ⟨w7, hw7, hb7, hx7⟩ : ∃ w7, w7 = wr.alloc (.cells #[.int .i64 (q.a : Int), .int .i64 (q.b : Int), .int .i64 (q.c : Int)] 23) ∧ Below wr.heap.size wr w7 ∧ Ix w7 wr.heap.size q.a q.b q.c := ⟨_, rfl, (Below.refl _ _).alloc (Nat.le_refl _) _, heap_alloc_new _ _⟩
              have HB7 := Lib.hid (HBj.out.trans (hb7.mono HBj.out.size))
              obtain ⟨c0, c1, c2⟩ := hx7.cells
              obtain ⟨d0, d1, d2⟩ := (HXj.out.below hb7).cells
              have HQ := Lib.hid hq
              have z2 : (0 : Int) ≤ (j : Int) := by omega
              have z3 : (j : Int) < (L.length : Int) := by omega
              clear hb7 hx7 hq
              by_cases hqi : q = i
              · subst hqi
                have hb := eql_ids q q true (by simp)
                go_upto_region 15 with fail
                rw [← hw7]
                clear hw7 y0 y1 y2
                go_wp2_with fail
                go_roundg (L.length - (j + 1))
                case measure => have := HJ.out; omega
                case rel => exact ⟨j + 1, j, true, by omega, by go_num, rfl, rfl, Lib.hid (.inr ⟨rfl, HQ.out⟩), HB7⟩
              · have hb := eql_ids q i false (by simpa using hqi)
                go_upto_region 15 with fail
                rw [← hw7]
                clear hw7 y0 y1 y2
                go_wp2_with fail
                go_roundg (L.length - (j + 1))
                case measure => have := HJ.out; omega
                case rel => exact ⟨j + 1, at_, th, by omega, by go_num, rfl, rfl, Lib.hid (found_more HF.out HQ.out hqi), HB7⟩
            · obtain rfl : j = L.length := by omega
              have HFd := Lib.hid (show (th = false ∧ i ∉ L) ∨ (th = true ∧ L[at_]? = some i) by have h := HF.out; unfold Found at h; rwa [List.take_length] at h)
              clear hjl hjx HF
              obtain ⟨c0, c1, c2⟩ := HXj.out.cells
              have KD := SfT.delete (i.a : Int) i.b i.c w wr HE.out HLj.out.bw HLj.out.sf HNE.out HLj.out.dr HGD.out
              rw [show nm 98 (i.a : Int) i.b i.c = i.nm from rfl] at KD
              have KD := Lib.hid KD
              by_cases hk : gs[k]? = some true
              · have hkl : k < gs.length := (List.getElem?_eq_some_iff.1 hk).1
                obtain ⟨b2, o2, rfl, hb2l, cb⟩ := (HGS.out.below HLj.out.bw).at hk
                have e7 : decide ((k : Int) < (gs.length : Int)) = true := decide_eq_true (by omega)
                have z4 : (k : Int) < (gs.length : Int) := by omega
                clear hk hkl hb2l
                rcases HFd.out with ⟨rfl, hni⟩ | ⟨rfl, hat⟩
                · rw [ask_out HLj.out.fs hni HGD.out, deM_out HLj.out.fs hni HGD.out, show erv aN aF aG .gone = Err.ev aG from rfl] at KD
                  clear hni
                  go_wp2_with (go_at_call 23; refine KD.out.mono ?_; rintro e w8 ⟨rfl, hd8, hk8⟩)
                  have HL8 := Lib.hid (HLj.out.stay HNE.out HMB.out hd8 hk8)
                  go_roundg (xs.length - (k + 1))
                  case measure => have := HG.out; omega
                  case rel => exact ⟨k + 1, L, M, by omega, by go_num, by omega, hL61, HL8⟩
                · have hin : i ∈ L := List.mem_of_getElem? hat
                  rw [ask_in HLj.out.fs hin HGD.out, deM_in HLj.out.fs hin HGD.out, show erv aN aF aG .ok = .nilIface from rfl] at KD
                  have hal : at_ < L.length := (List.getElem?_eq_some_iff.1 hat).1
                  have HAT := Lib.hid hat
                  obtain ⟨gr, cr, er, hcr, hgr, hwg, -⟩ := HLj.out.at hat
                  cases er
                  clear hin hat
                  go_upto_region 23 with (go_at_call 23; refine KD.out.mono ?_; rintro e w8 ⟨rfl, hd8, hk8⟩)
                  have zc : (at_ : Int) ≤ (cv : Int) := by omega
                  have za : (0 : Int) ≤ (at_ : Int) := by omega
                  have zb : (at_ : Int) + 1 ≤ (L.length : Int) := by omega
                  have zd : (L.length : Int) ≤ (cv : Int) := by omega
                  have zf : (0 : Int) ≤ (at_ : Int) + 1 := by omega
                  have ew : IntKind.i64.wrap ((at_ : Int) + 1) = (at_ : Int) + 1 := IntWalk.i64_in _ ⟨by omega, by omega⟩
                  obtain ⟨pB, hpB, hcB⟩ : ∃ pB : Addr, (if cv = at_ + 1 then some ⟨gr, 0, none⟩ else some ⟨gr, (at_ + 1) * 3, none⟩) = some pB ∧ ∀ W, OwnI W w.heap.size (.slice (some ⟨gr, 0, none⟩) L.length cv) L → ∀ (j : Nat) u, (icells (L.drop (at_ + 1)))[j]? = some u → W.cell? (pB.add j) = some u := by
                    by_cases hc : cv = at_ + 1
                    · rw [if_pos hc]
                      refine ⟨_, rfl, fun W _ j u hj => ?_⟩
                      rw [List.drop_eq_nil_of_le (by omega)] at hj
                      simp [icells] at hj
                    · rw [if_neg hc]
                      exact ⟨_, rfl, fun W hW => row_drop hW (by omega)⟩
                  refine HeldH.region (fun _ => True) (by kernel_rfl) ?_
                  refine HeldH.take (i := 1) (v := ?v1) rfl (by kernel_rfl) (by kernel_rfl) (by kernel_rfl) (fun _ _ _ h => h) trivial (by rfl) ?hy1 ?hr1
                  case hy1 => intro W hSw; go_simp; try with_reducible rfl
                  try simp only [Act.put, List.setIfInBounds_toArray]
                  refine HeldH.take (i := 2) (v := ?v2) rfl (by kernel_rfl) (by kernel_rfl) (by kernel_rfl) (fun _ _ _ h => h) trivial (by rfl) ?hy2 ?hr2
                  case hy2 => intro W hSw; go_simp; try with_reducible rfl
                  try simp only [Act.put]
                  refine HeldH.take (i := 3) (v := ?v3) rfl (by kernel_rfl) (by kernel_rfl) (by kernel_rfl) (fun _ _ _ h => h) trivial (by rfl) ?hy3 ?hr3
                  case hy3 => intro W hSw; go_simp; try with_reducible rfl
                  try simp only [Act.put]
                  refine HeldH.take (i := 5) (v := ?v5) rfl (by kernel_rfl) (by kernel_rfl) (by kernel_rfl) (fun _ _ _ h => h) trivial (by rfl) ?hy5 ?hr5
                  case hy5 => intro W hSw; go_simp; try with_reducible rfl
                  try simp only [Act.put]
                  refine HeldH.take (i := 6) (v := ?v6) rfl (by kernel_rfl) (by kernel_rfl) (by kernel_rfl) (fun _ _ _ h => h) trivial (by rfl) ?hy6 ?hr6
                  case hy6 => intro W hSw; go_simp; try with_reducible rfl
                  try simp only [Act.put]
                  refine HeldH.take (i := 7) (v := ?v7) rfl (by kernel_rfl) (by kernel_rfl) (by kernel_rfl) (fun _ _ _ h => h) trivial (by rfl) ?hy7 ?hr7
                  case hy7 => intro W hSw; go_simp; try with_reducible rfl
                  try simp only [Act.put]
                  refine HeldH.take (i := 8) (v := ?v8) rfl (by kernel_rfl) (by kernel_rfl) (by kernel_rfl) (fun _ _ _ h => h) trivial (by rfl) ?hy8 ?hr8
                  case hy8 => intro W hSw; go_simp; try with_reducible rfl
                  try simp only [Act.put]
                  obtain ⟨hs8, hf8, hn8, hg8, ho8, hb8⟩ := HLj.out.gone_at HAT.out HNE.out HMB.out hd8 hk8
                  have hba : Below w8.heap.size w8 (w8.drew.alloc (.cells #[] 23)) := (Below.refl _ _).drew.alloc (Nat.le_refl _) _
                  have ho9 := ho8.below hba
                  have hz8 : gr < w8.heap.size := (ho8.1.lt gr rfl).2
                  have hoE : OwnI (w8.drew.alloc (.cells #[] 23)) w.heap.size (.slice (some ⟨w8.heap.size, 0, none⟩) 0 0) [] := ownI_empty (w := w8.drew) hb8.size
                  have hs9 := hs8.below hba
                  have hd9 := hd8.below hba
                  have hb9 := hb8.trans (hba.mono hb8.size)
                  have hz9 : (w8.drew.alloc (.cells #[] 23)).heap.size = w8.heap.size + 1 := by rw [World.size_alloc]; rfl
                  refine HeldH.one (i := 0) (by kernel_rfl) rfl (fun K hK => ?_)
                  go_simp
                  refine hK.out _ _ trivial ?_
                  clear hK K
                  try simp only [Act.put, List.setIfInBounds_toArray, List.set_cons_zero, List.set_cons_succ]
                  refine HeldH.one (i := 4) (by kernel_rfl) rfl (fun K hK => ?_)
                  refine step_append_ids _ (by rfl) (.tmp 76) (.tmp 79) (by rfl) w.heap.size _ [] (L.take at_) hoE ⟨gr, 0, none⟩ at_ cv (by rw [List.length_take]; omega) (row_take ho9 at_) (by simp; omega) hb9.size (by rfl) (by rfl) ?_
                  intro v10 w10 ho10 hg10
                  refine hK.out _ _ trivial ?_
                  clear hK K
                  obtain ⟨hs10, hd10, hb10⟩ := onto hs9 hd9 hb9 hoE hg10
                  have ho9' := OwnI_grown ho9 hg10 (.inr (fun e => by simp [Value.ownBlock] at e; omega))
                  try simp only [Act.put, List.setIfInBounds_toArray]
                  refine HeldH.one (i := 9) (by kernel_rfl) rfl (fun K hK => ?_)
                  refine step_append_ids _ (by rfl) (.tmp 80) (.tmp 84) (by rfl) w.heap.size _ ([] ++ L.take at_) (L.drop (at_ + 1)) ho10 pB (L.length - (at_ + 1)) (cv - (at_ + 1)) (by rw [List.length_drop]) (hcB _ ho9') (by simp; omega) hb10.size (by rfl) (by rw [← hpB]; rfl) ?_
                  intro v11 w11 ho11 hg11
                  refine hK.out _ _ trivial ?_
                  clear hK K
                  obtain ⟨hs11, hd11, hb11⟩ := onto hs10 hd10 hb10 ho10 hg11
                  rw [List.nil_append] at ho11
                  have HL11 := Lib.hid (show Ls sp mb w w11 v11 (L.take at_ ++ L.drop (at_ + 1)) (Dp.del M i.nm) from ⟨hs11, hd11, hf8, hn8, hg8, ho11, hb11⟩)
                  have hlL : (L.take at_ ++ L.drop (at_ + 1)).length + 1 = L.length := by rw [List.length_append, List.length_take, List.length_drop]; omega
                  clear hf8 hn8 hg8 ho11
                  generalize L.take at_ ++ L.drop (at_ + 1) = L2 at HL11 hlL
                  obtain ⟨a11, c11, rfl, _⟩ := ownI_form HL11.out.ow
                  try simp only [Act.put]
                  refine HeldH.one (i := 10) (by kernel_rfl) rfl (fun K hK => ?_)
                  go_simp
                  refine hK.out _ _ trivial ?_
                  clear hK K
                  try simp only [Act.put, List.setIfInBounds_toArray, List.set_cons_zero, List.set_cons_succ]
                  refine wpAnyH_done (by kernel_rfl) ?_ _
                  clear hs8 ho8 hb8 hba ho9 hoE hs9 hd9 hb9 ho10 hg10 hs10 hd10 hb10 ho9' hg11 hs11 hd11 hb11 hd8 hk8 hz8 hz9 hpB hcB
                  generalize (if cv = at_ + 1 then some (⟨gr, 0, none⟩ : Addr) else some ⟨gr, (at_ + 1) * 3, none⟩) = pA
                  go_wp2_with fail
                  go_roundg (xs.length - (k + 1))
                  case measure => have := HG.out; omega
                  case rel => exact ⟨k + 1, L2, _, by omega, by go_num, by omega, by omega, HL11⟩
              · rcases Nat.lt_or_ge k gs.length with hkl | hkl
                · have hk2 : gs[k]? = some false := by
                    rw [List.getElem?_eq_getElem hkl] at hk ⊢
                    cases hb : gs[k] with
                    | false => rfl
                    | true => rw [hb] at hk; exact absurd rfl hk
                  obtain ⟨b2, o2, rfl, hb2l, cb⟩ := (HGS.out.below HLj.out.bw).at hk2
                  have e7 : decide ((k : Int) < (gs.length : Int)) = true := decide_eq_true (by omega)
                  have z4 : (k : Int) < (gs.length : Int) := by omega
                  clear hk hk2 hkl hb2l KD
                  go_upto_region 24 with fail
                  clear cb e7 z4
                  have hgim : gi ≠ mb := by have h1 := HGI.out; have h2 := HL.out.dr.names_lt.2; omega
                  obtain ⟨w7, hw7, hb7, hB7⟩ : ∃ w7, w7 = wr.alloc (.cells #[.int .u8 7] 5) ∧ Below wr.heap.size wr w7 ∧ Bs w7 (some ⟨wr.heap.size, 0, none⟩) [7] 1 := ⟨_, rfl, (Below.refl _ _).alloc (Nat.le_refl _) _, one_bs _⟩
                  have KP := FrM.put (stp i) [7] 1 w7 hB7 (by decide) (stamp_nums (stp_fits HGD.out))
                  have KP := Lib.hid (show Calls Tryz.prog 10 #[.agg #[.int .i64 (i.a : Int), .int .i64 (i.b : Int), .int .i64 (i.c : Int), .int .i64 3, .int .i64 1], .slice (some ⟨wr.heap.size, 0, none⟩) 1 1] w7 fun e w' => ∃ v, e = .returned v ∧ FrC.Own w7.heap.size w' v (frm i) ∧ Below w7.heap.size w7 w' from KP)
                  have hpp := put_plain M (stp i) (frm i) (stp_fits HGD.out) (by have := HLj.out.fs.len; omega) (HLj.out.fs.aside (stp i))
                  rw [nm_bn] at hpp
                  have HPP := Lib.hid hpp
                  have HB7 := Lib.hid hb7
                  have HMl := Lib.hid (show M.length < 4294967290 by have := HLj.out.fs.len; omega)
                  clear hB7 hb7 hpp
                  rcases HFd.out with ⟨rfl, hni⟩ | ⟨rfl, hat⟩
                  · have HNI := Lib.hid hni
                    clear hni
                    go_wp2_with (first
                      | (rw [← hw7]; go_at_call 10; refine KP.out.mono ?_; rintro e w8 ⟨v, rfl, hO8, hb8⟩; obtain ⟨a8, c8, rfl, hB8⟩ := hO8.bs; have HL8 := Lib.hid (HLj.out.below (HB7.out.trans (hb8.mono HB7.out.size))); have HX8 := Lib.hid (HXj.out.below (HB7.out.trans (hb8.mono HB7.out.size))); have KQ := SfB.put (frm i) c8 (stp i) [7] w w8 HE.out HL8.out.bw HMB.out HL8.out.sf HNE.out HL8.out.dr hB8 (by have := frm_len i; omega) HMl.out (frm_get HGD.out) rfl (stp_fits HGD.out); rw [HPP.out.1, HPP.out.2, show erv aN aF aG .ok = .nilIface from rfl] at KQ; have KQ := Lib.hid KQ; clear hO8 hb8 hB8)
                      | (go_at_call 11; refine KQ.out.mono ?_; rintro e w9 ⟨rfl, hd9, hk9⟩; obtain ⟨hs9, hd9', hf9, hn9, hg9, ho9, hb9⟩ := HL8.out.come HNE.out HMB.out HNI.out HGD.out hd9 hk9; have HS9 := Lib.hid hs9; have HD9 := Lib.hid hd9'; have HF9 := Lib.hid hf9; have HN9 := Lib.hid hn9; have HG9 := Lib.hid hg9; have HO9 := Lib.hid ho9; have HB9 := Lib.hid hb9; obtain ⟨c0, c1, c2⟩ := (SfD.ix_keep HX8.out hk9 hgim).cells; clear hd9 hk9 hs9 hd9' hf9 hn9 hg9 ho9 hb9)
                      | (at_builtin; refine wpList_append_ids _ rfl _ _ rfl w.heap.size _ L [i] (HO9.out.below ((Below.refl _ _).alloc (Nat.le_refl _) (.cells #[.int .i64 (i.a : Int), .int .i64 (i.b : Int), .int .i64 (i.c : Int)] 23))) ⟨w9.heap.size, 0, none⟩ 1 1 rfl (cells_three _ _ _ _ _) (by simp; omega) (by have := HB9.out.size; simp; omega) rfl rfl ?_; intro v10 w10 ho10 hg10; have hba : Below w9.heap.size w9 (w9.alloc (.cells #[.int .i64 (i.a : Int), .int .i64 (i.b : Int), .int .i64 (i.c : Int)] 23)) := (Below.refl _ _).alloc (Nat.le_refl _) _; obtain ⟨hs10, hd10, hb10⟩ := onto (HS9.out.below hba) (HD9.out.below hba) (HB9.out.trans (hba.mono HB9.out.size)) (HO9.out.below hba) hg10; have HL10 := Lib.hid (show Ls sp mb w w10 v10 (L ++ [i]) (Dp.put M i.nm ⟨frm i, frm i, true⟩) from ⟨hs10, hd10, HF9.out, HN9.out, HG9.out, ho10, hb10⟩); clear ho10 hg10 hba hs10 hd10 hb10))
                    go_roundg (xs.length - (k + 1))
                    case measure => have := HG.out; omega
                    case rel => exact ⟨k + 1, L ++ [i], _, by omega, by go_num, by simp; omega, by simp; omega, HL10⟩
                  · have HIN := Lib.hid (List.mem_of_getElem? hat)
                    clear hat
                    go_wp2_with (first
                      | (rw [← hw7]; go_at_call 10; refine KP.out.mono ?_; rintro e w8 ⟨v, rfl, hO8, hb8⟩; obtain ⟨a8, c8, rfl, hB8⟩ := hO8.bs; have HL8 := Lib.hid (HLj.out.below (HB7.out.trans (hb8.mono HB7.out.size))); have KQ := SfB.put (frm i) c8 (stp i) [7] w w8 HE.out HL8.out.bw HMB.out HL8.out.sf HNE.out HL8.out.dr hB8 (by have := frm_len i; omega) HMl.out (frm_get HGD.out) rfl (stp_fits HGD.out); rw [HPP.out.1, HPP.out.2, show erv aN aF aG .ok = .nilIface from rfl, HL8.out.fs.again HIN.out] at KQ; have KQ := Lib.hid KQ; clear hO8 hb8 hB8)
                      | (go_at_call 11; refine KQ.out.mono ?_; rintro e w9 ⟨rfl, hd9, hk9⟩))
                    have HL9 := Lib.hid (HL8.out.stay HNE.out HMB.out hd9 hk9)
                    go_roundg (xs.length - (k + 1))
                    case measure => have := HG.out; omega
                    case rel => exact ⟨k + 1, L, M, by omega, by go_num, by omega, hL61, HL9⟩
                · have e7 : decide ((k : Int) < (gs.length : Int)) = false := decide_eq_false (by omega)
                  have e8 : ¬ (k : Int) < (gs.length : Int) := by omega
                  have e9 : ¬ k < gs.length := by omega
                  clear hk hkl KD
                  go_upto_region 24 with fail
                  clear e7 e8 e9
                  have hgim : gi ≠ mb := by have h1 := HGI.out; have h2 := HL.out.dr.names_lt.2; omega
                  obtain ⟨w7, hw7, hb7, hB7⟩ : ∃ w7, w7 = wr.alloc (.cells #[.int .u8 7] 5) ∧ Below wr.heap.size wr w7 ∧ Bs w7 (some ⟨wr.heap.size, 0, none⟩) [7] 1 := ⟨_, rfl, (Below.refl _ _).alloc (Nat.le_refl _) _, one_bs _⟩
                  have KP := FrM.put (stp i) [7] 1 w7 hB7 (by decide) (stamp_nums (stp_fits HGD.out))
                  have KP := Lib.hid (show Calls Tryz.prog 10 #[.agg #[.int .i64 (i.a : Int), .int .i64 (i.b : Int), .int .i64 (i.c : Int), .int .i64 3, .int .i64 1], .slice (some ⟨wr.heap.size, 0, none⟩) 1 1] w7 fun e w' => ∃ v, e = .returned v ∧ FrC.Own w7.heap.size w' v (frm i) ∧ Below w7.heap.size w7 w' from KP)
                  have hpp := put_plain M (stp i) (frm i) (stp_fits HGD.out) (by have := HLj.out.fs.len; omega) (HLj.out.fs.aside (stp i))
                  rw [nm_bn] at hpp
                  have HPP := Lib.hid hpp
                  have HB7 := Lib.hid hb7
                  have HMl := Lib.hid (show M.length < 4294967290 by have := HLj.out.fs.len; omega)
                  clear hB7 hb7 hpp
                  rcases HFd.out with ⟨rfl, hni⟩ | ⟨rfl, hat⟩
                  · have HNI := Lib.hid hni
                    clear hni
                    go_wp2_with (first
                      | (rw [← hw7]; go_at_call 10; refine KP.out.mono ?_; rintro e w8 ⟨v, rfl, hO8, hb8⟩; obtain ⟨a8, c8, rfl, hB8⟩ := hO8.bs; have HL8 := Lib.hid (HLj.out.below (HB7.out.trans (hb8.mono HB7.out.size))); have HX8 := Lib.hid (HXj.out.below (HB7.out.trans (hb8.mono HB7.out.size))); have KQ := SfB.put (frm i) c8 (stp i) [7] w w8 HE.out HL8.out.bw HMB.out HL8.out.sf HNE.out HL8.out.dr hB8 (by have := frm_len i; omega) HMl.out (frm_get HGD.out) rfl (stp_fits HGD.out); rw [HPP.out.1, HPP.out.2, show erv aN aF aG .ok = .nilIface from rfl] at KQ; have KQ := Lib.hid KQ; clear hO8 hb8 hB8)
                      | (go_at_call 11; refine KQ.out.mono ?_; rintro e w9 ⟨rfl, hd9, hk9⟩; obtain ⟨hs9, hd9', hf9, hn9, hg9, ho9, hb9⟩ := HL8.out.come HNE.out HMB.out HNI.out HGD.out hd9 hk9; have HS9 := Lib.hid hs9; have HD9 := Lib.hid hd9'; have HF9 := Lib.hid hf9; have HN9 := Lib.hid hn9; have HG9 := Lib.hid hg9; have HO9 := Lib.hid ho9; have HB9 := Lib.hid hb9; obtain ⟨c0, c1, c2⟩ := (SfD.ix_keep HX8.out hk9 hgim).cells; clear hd9 hk9 hs9 hd9' hf9 hn9 hg9 ho9 hb9)
                      | (at_builtin; refine wpList_append_ids _ rfl _ _ rfl w.heap.size _ L [i] (HO9.out.below ((Below.refl _ _).alloc (Nat.le_refl _) (.cells #[.int .i64 (i.a : Int), .int .i64 (i.b : Int), .int .i64 (i.c : Int)] 23))) ⟨w9.heap.size, 0, none⟩ 1 1 rfl (cells_three _ _ _ _ _) (by simp; omega) (by have := HB9.out.size; simp; omega) rfl rfl ?_; intro v10 w10 ho10 hg10; have hba : Below w9.heap.size w9 (w9.alloc (.cells #[.int .i64 (i.a : Int), .int .i64 (i.b : Int), .int .i64 (i.c : Int)] 23)) := (Below.refl _ _).alloc (Nat.le_refl _) _; obtain ⟨hs10, hd10, hb10⟩ := onto (HS9.out.below hba) (HD9.out.below hba) (HB9.out.trans (hba.mono HB9.out.size)) (HO9.out.below hba) hg10; have HL10 := Lib.hid (show Ls sp mb w w10 v10 (L ++ [i]) (Dp.put M i.nm ⟨frm i, frm i, true⟩) from ⟨hs10, hd10, HF9.out, HN9.out, HG9.out, ho10, hb10⟩); clear ho10 hg10 hba hs10 hd10 hb10))
                    go_roundg (xs.length - (k + 1))
                    case measure => have := HG.out; omega
                    case rel => exact ⟨k + 1, L ++ [i], _, by omega, by go_num, by simp; omega, by simp; omega, HL10⟩
                  · have HIN := Lib.hid (List.mem_of_getElem? hat)
                    clear hat
                    go_wp2_with (first
                      | (rw [← hw7]; go_at_call 10; refine KP.out.mono ?_; rintro e w8 ⟨v, rfl, hO8, hb8⟩; obtain ⟨a8, c8, rfl, hB8⟩ := hO8.bs; have HL8 := Lib.hid (HLj.out.below (HB7.out.trans (hb8.mono HB7.out.size))); have KQ := SfB.put (frm i) c8 (stp i) [7] w w8 HE.out HL8.out.bw HMB.out HL8.out.sf HNE.out HL8.out.dr hB8 (by have := frm_len i; omega) HMl.out (frm_get HGD.out) rfl (stp_fits HGD.out); rw [HPP.out.1, HPP.out.2, show erv aN aF aG .ok = .nilIface from rfl, HL8.out.fs.again HIN.out] at KQ; have KQ := Lib.hid KQ; clear hO8 hb8 hB8)
                      | (go_at_call 11; refine KQ.out.mono ?_; rintro e w9 ⟨rfl, hd9, hk9⟩))
                    have HL9 := Lib.hid (HL8.out.stay HNE.out HMB.out hd9 hk9)
                    go_roundg (xs.length - (k + 1))
                    case measure => have := HG.out; omega
                    case rel => exact ⟨k + 1, L, M, by omega, by go_num, by omega, hL61, HL9⟩
    · obtain rfl : k = xs.length := by omega
      obtain ⟨ks, hbl, hpm⟩ := HL.out.fs.blobs HL.out.gd
      have hkl : ks.length = L.length := hpm.length_eq
      have hkn : ks.Nodup := hpm.nodup_iff.2 HL.out.nd
      have hML := HL.out.fs.len
      obtain ⟨S, hS⟩ : ∃ S, S = SfM.srt ks := ⟨_, rfl⟩
      have KL := callsIn_wide.1 (SfK.list_in ks (SfM.srt ks) wr HL.out.sf HL.out.dr (by omega) hbl (HMX.out.below HL.out.bw) (HE.out.below HL.out.bw).tab (fun base v W h => SfM.sort ks (by omega) base v W h))
      rw [← hS] at KL
      have KL := Lib.hid KL
      have HUP := Lib.hid (show ∀ (j : Nat) p q, S[j]? = some p → S[j + 1]? = some q → SfE.less p.a p.b p.c q.a q.b q.c = true from fun j p q hp hq => (SfM.less_lt p q).2 (by rw [hS] at hp hq; exact up_next hkn hp hq))
      have HSL := Lib.hid (show S.length = L.length by rw [hS, SfM.srt_length, hkl])
      have HIN := Lib.hid (show ∀ i ∈ S, i ∈ L from fun i hi => by rw [hS] at hi; exact hpm.mem_iff.1 ((SfM.srt_perm ks).mem_iff.1 hi))
      have KW := Lib.hid (show ∀ W, Ls sp mb w W (.slice av L.length cv) L M → Calls Tryz.prog 21 #[.pointer (some ⟨sp, 0, none⟩)] W fun e w' => e = .returned (.int .i64 0) ∧ Below W.heap.size W w' from fun W h => callsIn_wide.1 (SfJ.sweep_in ks W h.sf h.dr (by omega) hbl (HMX.out.below h.bw) (HE.out.below h.bw).tab))
      clear hbl hpm hkl hkn hML hS
      go_upto_region 30 with (go_at_call 22; refine KL.out.mono ?_; rintro e w5 ⟨vS, rfl, hI5, hb5⟩; obtain ⟨aS, cS, rfl⟩ := idl_form hI5; have HI5 := Lib.hid hI5; have HL5 := Lib.hid (HL.out.below hb5); clear hI5 hb5)
      rw [HSL.out] at HI5 ⊢
      have HS5 := Lib.hid (show S3 sp mb w w5 (.slice av L.length cv) L M (.slice aS L.length cS) S from ⟨HL5.out, HI5.out⟩)
      go_upto_region 33 with fail
      go_loopg [109] L.length (fun g v109 wj => ∃ (n : Nat), n + g = L.length ∧ v109 = .int .i64 (n : Int) ∧ Hid (S3 sp mb w wj (.slice av L.length cv) L M (.slice aS L.length cS) S))
      case atStart => exact ⟨0, by omega, rfl, HS5⟩
      case round =>
        obtain ⟨n, hng, rfl, HSj⟩ := hrel
        have HN := Lib.hid hng
        have hnL : n ≤ L.length := by omega
        clear hng
        by_cases hnl : n < L.length
        · obtain ⟨i, hi⟩ : ∃ i, S[n]? = some i := ⟨_, List.getElem?_eq_getElem (by rw [HSL.out]; exact hnl)⟩
          obtain ⟨gS, cS', eS, -, y0, y1, y2⟩ := idl_at HSj.out.li hi
          rw [HSL.out] at eS
          cases eS
          obtain ⟨w7, hw7, hb7, hx7⟩ : ∃ w7, w7 = wr.alloc (.cells #[.int .i64 (i.a : Int), .int .i64 (i.b : Int), .int .i64 (i.c : Int)] 23) ∧ Below wr.heap.size wr w7 ∧ Ix w7 wr.heap.size i.a i.b i.c := ⟨_, rfl, (Below.refl _ _).alloc (Nat.le_refl _) _, heap_alloc_new _ _⟩
          have HS7 := Lib.hid (HSj.out.below hb7)
          have HX7 := Lib.hid hx7
          obtain ⟨gi, hgi⟩ : ∃ gi, gi = wr.heap.size := ⟨_, rfl⟩
          have HI := Lib.hid hi
          have z2 : (0 : Int) ≤ (n : Int) := by omega
          have z3 : (n : Int) < (L.length : Int) := by omega
          clear hb7 hx7 hi
          go_upto_region 36 with fail
          rw [← hw7]
          rw [← hgi] at HX7 ⊢
          clear hw7 hgi y0 y1 y2
          go_upto_region 37 with fail
          go_loopg [17, 116] L.length (fun g v17 v116 wq => ∃ (j : Nat) (th : Bool), j + g = L.length ∧ v116 = .int .i64 (j : Int) ∧ v17 = .bool th ∧ Hid (i ∈ L.take j → th = true) ∧ Hid (Below w7.heap.size w7 wq))
          case atStart => exact ⟨0, false, by omega, rfl, rfl, Lib.hid (by simp), Lib.hid (Below.refl _ _)⟩
          case round =>
            obtain ⟨j, th, hjg, rfl, rfl, HF, HBq⟩ := hrel
            have HJ := Lib.hid hjg
            have hjx : j ≤ L.length := by omega
            clear hjg
            have HSq := Lib.hid (HS7.out.below HBq.out)
            have HXq := Lib.hid (HX7.out.below HBq.out)
            by_cases hjl : j < L.length
            · obtain ⟨q, hq⟩ : ∃ q, L[j]? = some q := ⟨_, List.getElem?_eq_getElem hjl⟩
              obtain ⟨gr, cr, er, -, hgr, -, y0, y1, y2⟩ := HSq.out.ls.at hq
              cases er
              obtain ⟨w8, hw8, hb8, hx8⟩ : ∃ w8, w8 = wr.alloc (.cells #[.int .i64 (q.a : Int), .int .i64 (q.b : Int), .int .i64 (q.c : Int)] 23) ∧ Below wr.heap.size wr w8 ∧ Ix w8 wr.heap.size q.a q.b q.c := ⟨_, rfl, (Below.refl _ _).alloc (Nat.le_refl _) _, heap_alloc_new _ _⟩
              have HB8 := Lib.hid (HBq.out.trans (hb8.mono HBq.out.size))
              obtain ⟨c0, c1, c2⟩ := hx8.cells
              obtain ⟨d0, d1, d2⟩ := (HXq.out.below hb8).cells
              have HQ := Lib.hid hq
              have z4 : (0 : Int) ≤ (j : Int) := by omega
              have z5 : (j : Int) < (L.length : Int) := by omega
              clear hb8 hx8 hq
              cases th
              · by_cases hqi : q = i
                · subst hqi
                  have hb := eql_ids q q true (by simp)
                  go_upto_region 39 with fail
                  rw [← hw8]
                  clear hw8 y0 y1 y2
                  go_wp2_with fail
                  go_roundg (L.length - (j + 1))
                  case measure => have := HJ.out; omega
                  case rel => exact ⟨j + 1, true, by omega, by go_num, rfl, Lib.hid (fun _ => rfl), HB8⟩
                · have hb := eql_ids q i false (by simpa using hqi)
                  go_upto_region 39 with fail
                  rw [← hw8]
                  clear hw8 y0 y1 y2
                  go_wp2_with fail
                  go_roundg (L.length - (j + 1))
                  case measure => have := HJ.out; omega
                  case rel => exact ⟨j + 1, false, by omega, by go_num, rfl, Lib.hid (fun h => HF.out (by rw [List.take_add_one, HQ.out] at h; simp only [List.mem_append, Option.toList_some, List.mem_singleton] at h; exact h.resolve_right (Ne.symm hqi))), HB8⟩
              · go_upto_region 39 with fail
                rw [← hw8]
                clear hw8 y0 y1 y2
                go_wp2_with fail
                go_roundg (L.length - (j + 1))
                case measure => have := HJ.out; omega
                case rel => exact ⟨j + 1, true, by omega, by go_num, rfl, Lib.hid (fun _ => rfl), HB8⟩
            · obtain rfl : j = L.length := by omega
              obtain rfl : th = true := HF.out (by rw [List.take_length]; exact HIN.out i (List.mem_of_getElem? HI.out))
              clear hjl hjx HF
              have KH := Lib.hid (show ∀ W, Ls sp mb w W (.slice av L.length cv) L M → Calls Tryz.prog 16 #[.pointer (some ⟨sp, 0, none⟩), .agg #[.int .i64 (i.a : Int), .int .i64 (i.b : Int), .int .i64 (i.c : Int)]] W fun e w' => e = .returned (.bool true) ∧ Below W.heap.size W w' from fun W h => by
                have him := HIN.out i (List.mem_of_getElem? HI.out)
                have hig := h.gd i him
                have k := SfH.has (i.a : Int) i.b i.c (frm i) w W HE.out h.bw h.sf h.dr (LsA.Fs.short h.fs) hig (ask_in h.fs him hig) (read_in h.fs him hig) (by have := frm_len i; omega)
                rw [getV_frm hig] at k
                exact k)
              go_upto_region 41 with fail
              have hS := And.intro (HSq.out.below ((Below.refl _ _).drew)) (HXq.out.below ((Below.refl _ _).drew))
              cases n with
              | zero =>
                refine HeldH.region (fun W => S3 sp mb w W (.slice av L.length cv) L M (.slice (some ⟨gS, 0, none⟩) L.length cS) S ∧ Ix W gi i.a i.b i.c) (by kernel_rfl) ?_
                refine HeldH.take (i := 0) (v := ?va0) rfl (by kernel_rfl) (by kernel_rfl) (by kernel_rfl) (fun _ _ _ h => h) hS (by kernel_rfl) ?hya0 ?hra0
                case hya0 => intro W hSw; go_simp; try with_reducible rfl
                try simp only [Act.put, List.setIfInBounds_toArray, List.getElem_toArray, List.getElem_cons_zero]
                refine HeldH.take (i := 1) (v := ?va1) rfl (by kernel_rfl) (by kernel_rfl) (by kernel_rfl) (fun _ _ _ h => h) hS (by kernel_rfl) ?hya1 ?hra1
                case hya1 => intro W hSw; go_simp; try with_reducible rfl
                try simp only [Act.put, List.setIfInBounds_toArray, List.getElem_toArray, List.getElem_cons_zero, List.getElem_cons_succ]
                refine HeldH.take (i := 2) (v := ?va2) rfl (by kernel_rfl) (by kernel_rfl) (by kernel_rfl) (fun _ _ _ h => h) hS (by kernel_rfl) ?hya2 ?hra2
                case hya2 => intro W hSw; go_simp; try with_reducible rfl
                try simp only [Act.put, List.setIfInBounds_toArray, List.getElem_toArray, List.getElem_cons_zero, List.getElem_cons_succ]
                refine HeldH.take (i := 3) (v := ?va3) rfl (by kernel_rfl) (by kernel_rfl) (by kernel_rfl) (fun _ _ _ h => h) hS (by kernel_rfl) ?hya3 ?hra3
                case hya3 => intro W hSw; go_simp; try with_reducible rfl
                try simp only [Act.put, List.setIfInBounds_toArray, List.getElem_toArray, List.getElem_cons_zero, List.getElem_cons_succ]
                refine HeldH.take (i := 4) (v := ?va4) rfl (by kernel_rfl) (by kernel_rfl) (by kernel_rfl) (fun _ _ _ h => h) hS (by kernel_rfl) ?hya4 ?hra4
                case hya4 => intro W hSw; go_simp; try with_reducible rfl
                try simp only [Act.put, List.setIfInBounds_toArray, List.getElem_toArray, List.getElem_cons_zero, List.getElem_cons_succ]
                refine HeldH.take (i := 5) (v := ?va5) rfl (by kernel_rfl) (by kernel_rfl) (by kernel_rfl) (fun _ _ _ h => h) hS (by kernel_rfl) ?hya5 ?hra5
                case hya5 => intro W hSw; go_simp; try with_reducible rfl
                try simp only [Act.put, List.setIfInBounds_toArray, List.getElem_toArray, List.getElem_cons_zero, List.getElem_cons_succ]
                refine skip (i := 6) rfl (by kernel_rfl) (by kernel_rfl) (by kernel_rfl) (fun _ _ _ h => h) hS (by kernel_rfl) ?_
                try simp only [Act.put, List.setIfInBounds_toArray, List.getElem_toArray, List.getElem_cons_zero, List.getElem_cons_succ]
                refine skip (i := 7) rfl (by kernel_rfl) (by kernel_rfl) (by kernel_rfl) (fun _ _ _ h => h) hS (by kernel_rfl) ?_
                try simp only [Act.put, List.setIfInBounds_toArray, List.getElem_toArray, List.getElem_cons_zero, List.getElem_cons_succ]
                refine skip (i := 8) rfl (by kernel_rfl) (by kernel_rfl) (by kernel_rfl) (fun _ _ _ h => h) hS (by kernel_rfl) ?_
                try simp only [Act.put, List.setIfInBounds_toArray, List.getElem_toArray, List.getElem_cons_zero, List.getElem_cons_succ]
                refine skip (i := 9) rfl (by kernel_rfl) (by kernel_rfl) (by kernel_rfl) (fun _ _ _ h => h) hS (by kernel_rfl) ?_
                try simp only [Act.put, List.setIfInBounds_toArray, List.getElem_toArray, List.getElem_cons_zero, List.getElem_cons_succ]
                refine skip (i := 10) rfl (by kernel_rfl) (by kernel_rfl) (by kernel_rfl) (fun _ _ _ h => h) hS (by kernel_rfl) ?_
                try simp only [Act.put, List.setIfInBounds_toArray, List.getElem_toArray, List.getElem_cons_zero, List.getElem_cons_succ]
                refine skip (i := 11) rfl (by kernel_rfl) (by kernel_rfl) (by kernel_rfl) (fun _ _ _ h => h) hS (by kernel_rfl) ?_
                try simp only [Act.put, List.setIfInBounds_toArray, List.getElem_toArray, List.getElem_cons_zero, List.getElem_cons_succ]
                refine skip (i := 12) rfl (by kernel_rfl) (by kernel_rfl) (by kernel_rfl) (fun _ _ _ h => h) hS (by kernel_rfl) ?_
                try simp only [Act.put, List.setIfInBounds_toArray, List.getElem_toArray, List.getElem_cons_zero, List.getElem_cons_succ]
                refine skip (i := 13) rfl (by kernel_rfl) (by kernel_rfl) (by kernel_rfl) (fun _ _ _ h => h) hS (by kernel_rfl) ?_
                try simp only [Act.put, List.setIfInBounds_toArray, List.getElem_toArray, List.getElem_cons_zero, List.getElem_cons_succ]
                refine HeldH.take (i := 14) (v := ?va14) rfl (by kernel_rfl) (by kernel_rfl) (by kernel_rfl) (fun _ _ _ h => h) hS (by kernel_rfl) ?hya14 ?hra14
                case hya14 => intro W hSw; go_simp; try with_reducible rfl
                try simp only [Act.put, List.setIfInBounds_toArray, List.getElem_toArray, List.getElem_cons_zero, List.getElem_cons_succ]
                refine HeldH.take (i := 15) (v := ?va15) rfl (by kernel_rfl) (by kernel_rfl) (by kernel_rfl) (fun _ _ _ h => h) hS (by kernel_rfl) ?hya15 ?hra15
                case hya15 => intro W hSw; go_simp; try with_reducible rfl
                try simp only [Act.put, List.setIfInBounds_toArray, List.getElem_toArray, List.getElem_cons_zero, List.getElem_cons_succ]
                refine HeldH.take (i := 16) (v := ?va16) rfl (by kernel_rfl) (by kernel_rfl) (by kernel_rfl) (fun _ _ _ h => h) hS (by kernel_rfl) ?hya16 ?hra16
                case hya16 => intro W hSw; go_simp; try with_reducible rfl
                try simp only [Act.put, List.setIfInBounds_toArray, List.getElem_toArray, List.getElem_cons_zero, List.getElem_cons_succ]
                refine HeldH.take (i := 17) (v := ?va17) rfl (by kernel_rfl) (by kernel_rfl) (by kernel_rfl) (fun _ _ _ h => h) hS (by kernel_rfl) ?hya17 ?hra17
                case hya17 => intro W hSw; go_simp; try with_reducible rfl
                try simp only [Act.put, List.setIfInBounds_toArray, List.getElem_toArray, List.getElem_cons_zero, List.getElem_cons_succ]
                refine HeldH.take (i := 18) (v := ?va18) rfl (by kernel_rfl) (by kernel_rfl) (by kernel_rfl) (fun _ _ _ h => h) hS (by kernel_rfl) ?hya18 ?hra18
                case hya18 => intro W hSw; obtain ⟨-, hx⟩ := hSw; obtain ⟨c0, c1, c2⟩ := hx.cells; clear hx; go_simp; try with_reducible rfl
                try simp only [Act.put, List.setIfInBounds_toArray, List.getElem_toArray, List.getElem_cons_zero, List.getElem_cons_succ]
                refine HeldH.one (i := 19) (by kernel_rfl) rfl (fun K hK => ?_)
                go_simp
                go_at_call 16
                refine (KH.out _ hS.1.ls).mono ?_
                rintro e w9 ⟨rfl, hb9⟩
                try go_wp2_with fail
                have hS9 := And.intro (hS.1.below hb9) (hS.2.below hb9)
                refine hK.out _ _ hS9 ?_
                clear hK K
                try simp only [Act.put, List.setIfInBounds_toArray, List.set_cons_zero, List.set_cons_succ]
                refine HeldH.take (i := 20) (v := ?va20) rfl (by kernel_rfl) (by kernel_rfl) (by kernel_rfl) (fun _ _ _ h => h) hS9 (by kernel_rfl) ?hya20 ?hra20
                case hya20 => intro W hSw; go_simp; try with_reducible rfl
                try simp only [Act.put, List.setIfInBounds_toArray, List.getElem_toArray, List.getElem_cons_zero, List.getElem_cons_succ]
                refine HeldH.take (i := 21) (v := ?va21) rfl (by kernel_rfl) (by kernel_rfl) (by kernel_rfl) (fun _ _ _ h => h) hS9 (by kernel_rfl) ?hya21 ?hra21
                case hya21 => intro W hSw; go_simp; try with_reducible rfl
                try simp only [Act.put, List.setIfInBounds_toArray, List.getElem_toArray, List.getElem_cons_zero, List.getElem_cons_succ]
                refine wpAnyH_done (by kernel_rfl) ?_ _
                have HS9 := Lib.hid hS9.1
                clear hS9 hb9 hS
                go_wp2_with fail
                go_roundg (L.length - (0 + 1))
                case measure => have := HN.out; omega
                case rel => exact ⟨0 + 1, by omega, by go_num, HS9⟩
              | succ m =>
                obtain ⟨p, hp⟩ : ∃ p, S[m]? = some p := ⟨_, List.getElem?_eq_getElem (by rw [HSL.out]; omega)⟩
                have HP := Lib.hid hp
                have KLS := Lib.hid (show ∀ W, Calls Tryz.prog 17 #[.agg #[.int .i64 (p.a : Int), .int .i64 (p.b : Int), .int .i64 (p.c : Int)], .agg #[.int .i64 (i.a : Int), .int .i64 (i.b : Int), .int .i64 (i.c : Int)]] W fun e w' => e = .returned (.bool true) ∧ Below W.heap.size W w' from fun W => by
                  have k := SfE.lessW (p.a : Int) p.b p.c i.a i.b i.c W
                  rw [HUP.out m p i HP.out HI.out] at k
                  exact k)
                have e1 : decide (((m + 1 : Nat) : Int) > 0) = true := decide_eq_true (by omega)
                have e2 : decide ((0 : Int) < ((m + 1 : Nat) : Int)) = true := decide_eq_true (by omega)
                have ew : IntKind.i64.wrap (m : Int) = (m : Int) := IntWalk.i64_in _ ⟨by omega, by omega⟩
                have z6 : (0 : Int) ≤ (m : Int) := by omega
                have z7 : (m : Int) < (L.length : Int) := by omega
                clear hp
                refine HeldH.region (fun W => S3 sp mb w W (.slice av L.length cv) L M (.slice (some ⟨gS, 0, none⟩) L.length cS) S ∧ Ix W gi i.a i.b i.c) (by kernel_rfl) ?_
                refine HeldH.take (i := 0) (v := ?vb0) rfl (by kernel_rfl) (by kernel_rfl) (by kernel_rfl) (fun _ _ _ h => h) hS (by kernel_rfl) ?hyb0 ?hrb0
                case hyb0 => intro W hSw; go_simp; try with_reducible rfl
                try simp only [Act.put, List.setIfInBounds_toArray, List.getElem_toArray, List.getElem_cons_zero]
                refine HeldH.take (i := 1) (v := ?vb1) rfl (by kernel_rfl) (by kernel_rfl) (by kernel_rfl) (fun _ _ _ h => h) hS (by kernel_rfl) ?hyb1 ?hrb1
                case hyb1 => intro W hSw; go_simp; try with_reducible rfl
                try simp only [Act.put, List.setIfInBounds_toArray, List.getElem_toArray, List.getElem_cons_zero, List.getElem_cons_succ]
                refine HeldH.take (i := 2) (v := ?vb2) rfl (by kernel_rfl) (by kernel_rfl) (by kernel_rfl) (fun _ _ _ h => h) hS (by kernel_rfl) ?hyb2 ?hrb2
                case hyb2 => intro W hSw; go_simp; try with_reducible rfl
                try simp only [Act.put, List.setIfInBounds_toArray, List.getElem_toArray, List.getElem_cons_zero, List.getElem_cons_succ]
                refine HeldH.take (i := 3) (v := ?vb3) rfl (by kernel_rfl) (by kernel_rfl) (by kernel_rfl) (fun _ _ _ h => h) hS (by kernel_rfl) ?hyb3 ?hrb3
                case hyb3 => intro W hSw; go_simp; try with_reducible rfl
                try simp only [Act.put, List.setIfInBounds_toArray, List.getElem_toArray, List.getElem_cons_zero, List.getElem_cons_succ]
                refine HeldH.take (i := 4) (v := ?vb4) rfl (by kernel_rfl) (by kernel_rfl) (by kernel_rfl) (fun _ _ _ h => h) hS (by kernel_rfl) ?hyb4 ?hrb4
                case hyb4 => intro W hSw; go_simp; try with_reducible rfl
                try simp only [Act.put, List.setIfInBounds_toArray, List.getElem_toArray, List.getElem_cons_zero, List.getElem_cons_succ]
                refine HeldH.take (i := 5) (v := ?vb5) rfl (by kernel_rfl) (by kernel_rfl) (by kernel_rfl) (fun _ _ _ h => h) hS (by kernel_rfl) ?hyb5 ?hrb5
                case hyb5 => intro W hSw; go_simp; try with_reducible rfl
                try simp only [Act.put, List.setIfInBounds_toArray, List.getElem_toArray, List.getElem_cons_zero, List.getElem_cons_succ]
                refine HeldH.take (i := 6) (v := ?vb6) rfl (by kernel_rfl) (by kernel_rfl) (by kernel_rfl) (fun _ _ _ h => h) hS (by kernel_rfl) ?hyb6 ?hrb6
                case hyb6 => intro W hSw; go_simp; try with_reducible rfl
                try simp only [Act.put, List.setIfInBounds_toArray, List.getElem_toArray, List.getElem_cons_zero, List.getElem_cons_succ]
                refine HeldH.take (i := 7) (v := ?vb7) rfl (by kernel_rfl) (by kernel_rfl) (by kernel_rfl) (fun _ _ _ h => h) hS (by kernel_rfl) ?hyb7 ?hrb7
                case hyb7 => intro W hSw; go_simp; try with_reducible rfl
                try simp only [Act.put, List.setIfInBounds_toArray, List.getElem_toArray, List.getElem_cons_zero, List.getElem_cons_succ]
                refine HeldH.take (i := 8) (v := ?vb8) rfl (by kernel_rfl) (by kernel_rfl) (by kernel_rfl) (fun _ _ _ h => h) hS (by kernel_rfl) ?hyb8 ?hrb8
                case hyb8 => intro W hSw; go_simp; try with_reducible rfl
                try simp only [Act.put, List.setIfInBounds_toArray, List.getElem_toArray, List.getElem_cons_zero, List.getElem_cons_succ]
                refine HeldH.take (i := 9) (v := ?vb9) rfl (by kernel_rfl) (by kernel_rfl) (by kernel_rfl) (fun _ _ _ h => h) hS (by kernel_rfl) ?hyb9 ?hrb9
                case hyb9 => intro W hSw; go_simp; try with_reducible rfl
                try simp only [Act.put, List.setIfInBounds_toArray, List.getElem_toArray, List.getElem_cons_zero, List.getElem_cons_succ]
                refine HeldH.take (i := 10) (v := ?vb10) rfl (by kernel_rfl) (by kernel_rfl) (by kernel_rfl) (fun _ _ _ h => h) hS (by kernel_rfl) ?hyb10 ?hrb10
                case hyb10 => intro W hSw; obtain ⟨hs, -⟩ := hSw; obtain ⟨_, _, eg, -, c0, c1, c2⟩ := idl_at hs.li HP.out; rw [HSL.out] at eg; cases eg; clear hs; go_simp; try with_reducible rfl
                try simp only [Act.put, List.setIfInBounds_toArray, List.getElem_toArray, List.getElem_cons_zero, List.getElem_cons_succ]
                refine HeldH.take (i := 11) (v := ?vb11) rfl (by kernel_rfl) (by kernel_rfl) (by kernel_rfl) (fun _ _ _ h => h) hS (by kernel_rfl) ?hyb11 ?hrb11
                case hyb11 => intro W hSw; obtain ⟨-, hx⟩ := hSw; obtain ⟨c0, c1, c2⟩ := hx.cells; clear hx; go_simp; try with_reducible rfl
                try simp only [Act.put, List.setIfInBounds_toArray, List.getElem_toArray, List.getElem_cons_zero, List.getElem_cons_succ]
                refine HeldH.one (i := 12) (by kernel_rfl) rfl (fun K hK => ?_)
                go_simp
                go_at_call 17
                refine (KLS.out _).mono ?_
                rintro e w8 ⟨rfl, hb8⟩
                try go_wp2_with fail
                have hS8 := And.intro (hS.1.below hb8) (hS.2.below hb8)
                refine hK.out _ _ hS8 ?_
                clear hK K
                try simp only [Act.put, List.setIfInBounds_toArray, List.set_cons_zero, List.set_cons_succ]
                refine HeldH.take (i := 13) (v := ?vb13) rfl (by kernel_rfl) (by kernel_rfl) (by kernel_rfl) (fun _ _ _ h => h) hS8 (by kernel_rfl) ?hyb13 ?hrb13
                case hyb13 => intro W hSw; go_simp; try with_reducible rfl
                try simp only [Act.put, List.setIfInBounds_toArray, List.getElem_toArray, List.getElem_cons_zero, List.getElem_cons_succ]
                refine HeldH.take (i := 14) (v := ?vb14) rfl (by kernel_rfl) (by kernel_rfl) (by kernel_rfl) (fun _ _ _ h => h) hS8 (by kernel_rfl) ?hyb14 ?hrb14
                case hyb14 => intro W hSw; go_simp; try with_reducible rfl
                try simp only [Act.put, List.setIfInBounds_toArray, List.getElem_toArray, List.getElem_cons_zero, List.getElem_cons_succ]
                refine HeldH.take (i := 15) (v := ?vb15) rfl (by kernel_rfl) (by kernel_rfl) (by kernel_rfl) (fun _ _ _ h => h) hS8 (by kernel_rfl) ?hyb15 ?hrb15
                case hyb15 => intro W hSw; go_simp; try with_reducible rfl
                try simp only [Act.put, List.setIfInBounds_toArray, List.getElem_toArray, List.getElem_cons_zero, List.getElem_cons_succ]
                refine HeldH.take (i := 16) (v := ?vb16) rfl (by kernel_rfl) (by kernel_rfl) (by kernel_rfl) (fun _ _ _ h => h) hS8 (by kernel_rfl) ?hyb16 ?hrb16
                case hyb16 => intro W hSw; go_simp; try with_reducible rfl
                try simp only [Act.put, List.setIfInBounds_toArray, List.getElem_toArray, List.getElem_cons_zero, List.getElem_cons_succ]
                refine HeldH.take (i := 17) (v := ?vb17) rfl (by kernel_rfl) (by kernel_rfl) (by kernel_rfl) (fun _ _ _ h => h) hS8 (by kernel_rfl) ?hyb17 ?hrb17
                case hyb17 => intro W hSw; go_simp; try with_reducible rfl
                try simp only [Act.put, List.setIfInBounds_toArray, List.getElem_toArray, List.getElem_cons_zero, List.getElem_cons_succ]
                refine HeldH.take (i := 18) (v := ?vb18) rfl (by kernel_rfl) (by kernel_rfl) (by kernel_rfl) (fun _ _ _ h => h) hS8 (by kernel_rfl) ?hyb18 ?hrb18
                case hyb18 => intro W hSw; obtain ⟨-, hx⟩ := hSw; obtain ⟨c0, c1, c2⟩ := hx.cells; clear hx; go_simp; try with_reducible rfl
                try simp only [Act.put, List.setIfInBounds_toArray, List.getElem_toArray, List.getElem_cons_zero, List.getElem_cons_succ]
                refine HeldH.one (i := 19) (by kernel_rfl) rfl (fun K hK => ?_)
                go_simp
                go_at_call 16
                refine (KH.out _ hS8.1.ls).mono ?_
                rintro e w9 ⟨rfl, hb9⟩
                try go_wp2_with fail
                have hS9 := And.intro (hS8.1.below hb9) (hS8.2.below hb9)
                refine hK.out _ _ hS9 ?_
                clear hK K
                try simp only [Act.put, List.setIfInBounds_toArray, List.set_cons_zero, List.set_cons_succ]
                refine HeldH.take (i := 20) (v := ?vb20) rfl (by kernel_rfl) (by kernel_rfl) (by kernel_rfl) (fun _ _ _ h => h) hS9 (by kernel_rfl) ?hyb20 ?hrb20
                case hyb20 => intro W hSw; go_simp; try with_reducible rfl
                try simp only [Act.put, List.setIfInBounds_toArray, List.getElem_toArray, List.getElem_cons_zero, List.getElem_cons_succ]
                refine HeldH.take (i := 21) (v := ?vb21) rfl (by kernel_rfl) (by kernel_rfl) (by kernel_rfl) (fun _ _ _ h => h) hS9 (by kernel_rfl) ?hyb21 ?hrb21
                case hyb21 => intro W hSw; go_simp; try with_reducible rfl
                try simp only [Act.put, List.setIfInBounds_toArray, List.getElem_toArray, List.getElem_cons_zero, List.getElem_cons_succ]
                refine wpAnyH_done (by kernel_rfl) ?_ _
                have HS9 := Lib.hid hS9.1
                clear hS9 hb9 hS hS8 hb8
                go_wp2_with fail
                go_roundg (L.length - (m + 1 + 1))
                case measure => have := HN.out; omega
                case rel => exact ⟨m + 1 + 1, by omega, by go_num, HS9⟩
        · obtain rfl : n = L.length := by omega
          clear hnl hnL
          go_wp2_with (go_at_call 21; refine (KW.out _ HSj.out.ls).mono ?_; rintro e w9 ⟨rfl, hb9⟩; have HB9 := Lib.hid (HSj.out.ls.bw.trans (hb9.mono HSj.out.ls.bw.size)); clear hb9)
          go_ret
          exact ⟨rfl, HB9.out⟩
end Go.Proofs.YtecnnlppinhmgaaGreatDoor.LsB
