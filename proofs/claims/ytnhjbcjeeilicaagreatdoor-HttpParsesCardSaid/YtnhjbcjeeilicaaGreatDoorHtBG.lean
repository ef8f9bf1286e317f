/-
  The walk of the document's Parse.
-/
import Derived.Test.YtnhjbcjeeilicaaGreatDoorHtBF
import Derived.Test.YtnhjbcjeeilicaaGreatDoorHtAA
import Derived.Test.YtnhjbcjeeilicaaGreatDoorSlc
namespace Go.Proofs.YtnhjbcjeeilicaaGreatDoor.HtBG
open Go.RowKit Go.Proofs.YtnhjbcjeeilicaaGreatDoor Go.Proofs.YtnhjbcjeeilicaaGreatDoor.Ht Go.Proofs.YtnhjbcjeeilicaaGreatDoor.HtW Go.Proofs.YtnhjbcjeeilicaaGreatDoor.HtC Go.Proofs.YtnhjbcjeeilicaaGreatDoor.HtE Go.Proofs.YtnhjbcjeeilicaaGreatDoor.HtG Go.Proofs.YtnhjbcjeeilicaaGreatDoor.HtI Go.Proofs.YtnhjbcjeeilicaaGreatDoor.HtBA Go.Proofs.YtnhjbcjeeilicaaGreatDoor.HtBC Go.Proofs.YtnhjbcjeeilicaaGreatDoor.HtBD Go.Proofs.YtnhjbcjeeilicaaGreatDoor.HtBE Go.Proofs.YtnhjbcjeeilicaaGreatDoor.HtBF Go.Proofs.YtnhjbcjeeilicaaGreatDoor.HtAA

/-- an error's number -/
def ern : Er → Int
  | .bad => 13
  | .large => 11
def RPost (b : List UInt8) (e : Ending) (w' : World) : Prop := match Ht.parse b with
  | .none => e = .returned (.tuple #[noReq, .int .i64 0, .int .i64 0])
  | .no x => e = .returned (.tuple #[noReq, .int .i64 0, .int .i64 (ern x)])
  | .ok m t fs body n => ∃ af cf ab cb, e = .returned (.tuple #[.agg #[.string ⟨m.toArray⟩, .string ⟨t.toArray⟩, .slice af fs.length cf, .slice ab body.length cb], .int .i64 (n : Int), .int .i64 0]) ∧ Fs w' af fs ∧ Bs w' ab body cb ∧ fs.length ≤ 32
theorem rp_none {b : List UInt8} {w' : World} (h : Ht.parse b = .none) : RPost b (.returned (.tuple #[noReq, .int .i64 0, .int .i64 0])) w' := by unfold RPost; rw [h]
theorem rp_no {b : List UInt8} {w' : World} {x : Er} {z : Int} (h : Ht.parse b = .no x) (hz : z = ern x) : RPost b (.returned (.tuple #[noReq, .int .i64 0, .int .i64 z])) w' := by unfold RPost; rw [h, hz]
theorem endN_some {l : List UInt8} {i : Nat} (h : Lib.index (l.take 2048) crlf2 = i) : endN l = i + 4 := by
  unfold endN
  rw [if_neg (by omega), h]
  rfl
theorem endN_none {l : List UInt8} (h : Lib.index (l.take 2048) crlf2 = -1) : endN l = 0 := by
  unfold endN
  rw [if_pos h]
/-- what a request's bytes say, by the parts of the document's parser -/
theorem by_parts {b : List UInt8} {i : Nat} (h : Lib.index (b.take 2048) crlf2 = i) {l : List UInt8} {ls : List (List UInt8)} (hl : Ht.split [13, 10] (b.take i) = l :: ls) :
    ((isf l && ls.all fine) = false → Ht.parse b = .no .bad) ∧
    ((isf l && ls.all fine) = true → 32 < ls.length → Ht.parse b = .no .large) ∧
    ((isf l && ls.all fine) = true → ¬ 32 < ls.length → ∀ e, Ht.size (ls.map gf) = .no e → Ht.parse b = .no e) ∧
    ((isf l && ls.all fine) = true → ¬ 32 < ls.length → ∀ k, Ht.size (ls.map gf) = .ok k → Ht.parse b = if b.length - (i + 4) < k then .none else .ok (gm l).1 (gm l).2 (ls.map gf) ((b.drop (i + 4)).take k) (i + 4 + k)) := by
  rw [HtV.parse_some h, head_parts hl]
  unfold isf gm
  cases hf : Ht.first l with
  | none => exact ⟨fun _ => rfl, fun h => by simp at h, fun h => by simp at h, fun h => by simp at h⟩
  | some mt =>
    simp only [Option.isSome_some, Bool.true_and, Option.getD_some]
    by_cases ha : ls.all fine = true
    · rw [if_pos ha, ha]
      by_cases hn : 32 < ls.length
      · rw [if_pos hn]
        exact ⟨fun h => by simp at h, fun _ _ => rfl, fun _ h => absurd hn h, fun _ h => absurd hn h⟩
      · rw [if_neg hn]
        refine ⟨fun h => by simp at h, fun _ h => absurd h hn, fun _ _ e he => by simp only [he], fun _ _ k hk => by simp only [hk]⟩
    · rw [if_neg ha]
      have : ls.all fine = false := by simpa using ha
      rw [this]
      exact ⟨fun _ => rfl, fun h => by simp at h, fun h => by simp at h, fun h => by simp at h⟩

set_option maxHeartbeats 8000000 in
set_option maxRecDepth 100000 in
theorem rparse (b : List UInt8) {a : Option Addr} {c : Nat} (w : World) (hb : Bs w a b c) (hs : b.length ≤ 140737488355328) :
    Calls Tryz.prog 7 #[.slice a b.length c] w fun e w' => RPost b e w' ∧ Below w.heap.size w w' := by
  obtain ⟨i0, hi, hz0, hz1, hz2⟩ := info_parts infoField
  have hb0 : Below w.heap.size w (w.alloc (.cells #[.string ⟨#[]⟩, .string ⟨#[]⟩, .slice none 0 0, .slice none 0 0] 27)) := (Below.refl _ _).alloc (Nat.le_refl _) _
  have hR0 : Rq w.heap.size (w.alloc (.cells #[.string ⟨#[]⟩, .string ⟨#[]⟩, .slice none 0 0, .slice none 0 0] 27)) (.string ⟨#[]⟩) (.string ⟨#[]⟩) (.slice none 0 0) (.slice none 0 0) := heap_alloc_new _ _
  have HB0 := Lib.hid hb0
  have HR0 := Lib.hid hR0
  have HBs := Lib.hid (hb.below hb0)
  clear hR0 hb0 hb
  go_enter Tryz.func7, Tryz.ntmps7
  go_wp2_with fail
  generalize w.alloc (.cells #[.string ⟨#[]⟩, .string ⟨#[]⟩, .slice none 0 0, .slice none 0 0] 27) = W0 at *
  have hz0' := HR0.out.lt
  obtain ⟨r0, r1, r2, r3, f0, f1, f2, f3⟩ := HR0.out.cells
  refine (endOf b _ HBs.out hs).mono ?_
  rintro e w1 ⟨rfl, rfl⟩
  rcases Lib.index_spec (b.take 2048) crlf2 with ⟨hx, -⟩ | ⟨i, hx, -, -, -⟩
  · have hp := HtV.parse_none hx
    have hn := endN_none hx
    clear hx
    by_cases hbig : 2048 ≤ b.length
    · rw [if_pos hbig] at hp
      have HP := Lib.hid hp
      clear hp
      have q1 : (2048 : Int) ≤ b.length := by omega
      rw [hn]
      go_wp2_with fail
      refine bodyPost_ret (run3 (HR0.out.put _ _ _ _) rfl rfl rfl rfl) rfl ⟨?_, below_four HB0.out _ _ _ _⟩
      exact rp_no HP.out rfl
    · rw [if_neg hbig] at hp
      have HP := Lib.hid hp
      clear hp
      have q1 : ¬ (2048 : Int) ≤ b.length := by omega
      rw [hn]
      go_wp2_with fail
      refine bodyPost_ret (run3 (HR0.out.put _ _ _ _) rfl rfl rfl rfl) rfl ⟨?_, below_four HB0.out _ _ _ _⟩
      exact rp_none HP.out
  · have hn := endN_some hx
    obtain ⟨a1, a2, -, -⟩ := HtV.at_some hx
    obtain ⟨g, o, rfl, -⟩ := HBs.out.2.2.resolve_left (fun e => by rw [e] at a1; simp at a1)
    have hcap := HBs.out.1
    have kb := to_string (Bs.take HBs.out i (by omega))
    have htl : (b.take i).length = i := by rw [List.length_take]; omega
    rw [htl] at kb
    cases hls : Ht.split [13, 10] (b.take i) with
    | nil => exact absurd hls (split_ne _ _)
    | cons l ls =>
      obtain ⟨P1, P2, P3, P4⟩ := by_parts hx hls
      have hP1 := Lib.hid P1
      have hP2 := Lib.hid P2
      have hP3 := Lib.hid P3
      have hP4 := Lib.hid P4
      have hlen := split_length [13, 10] (b.take i)
      have hll := split_size (sep := [13, 10]) (l := b.take i) (x := l) (by rw [hls]; exact List.mem_cons_self)
      have HSZ := Lib.hid (show ∀ x ∈ ls, x.length ≤ i from fun x hx => by have := split_size (sep := [13, 10]) (l := b.take i) (x := x) (by rw [hls]; exact List.mem_cons_of_mem _ hx); omega)
      rw [hls, htl] at hlen
      rw [htl] at hll
      have hl1 : (l :: ls).length = ls.length + 1 := rfl
      rw [hl1] at hlen
      have HLS := Lib.hid hls
      clear P1 P2 P3 P4 hx hls
      have z0 : (0 : Int) ≤ i := by omega
      have z1 : (i : Int) ≤ c := by omega
      have z2 : (i : Int) + 4 ≤ 2048 := by omega
      have z3 : ((i : Int) + 4 == 0) = false := beq_eq_false_iff_ne.2 (by omega)
      have z4 : ¬ (i : Int) + 4 = 0 := by omega
      rw [hn]
      go_wp2_with fail
      refine (lines ⟨(b.take i).toArray⟩ _ (by rw [Com.size_mk, htl]; omega)).mono ?_
      rintro e w1 ⟨⟨A, C, rfl, hC, hS⟩, hb1⟩
      rw [show (ByteArray.mk (b.take i).toArray).data.toList = b.take i from rfl] at *
      rw [HLS.out] at hC hS ⊢
      obtain ⟨gl, ol, rfl, hgl, hcs⟩ := hS.resolve_left (by simp)
      have HC := Lib.hid (show ∀ (j : Nat) x, (l :: ls)[j]? = some x → w1.cell? ⟨gl, ol + j, none⟩ = some (.string ⟨x.toArray⟩) from fun j x hj => hcs j ⟨x.toArray⟩ (by rw [List.getElem?_map, hj]; rfl))
      have c0 := HC.out 0 l rfl
      rw [Nat.add_zero] at c0
      have HB1 := Lib.hid (HB0.out.trans (hb1.mono HB0.out.size))
      have HR1 := Lib.hid (HR0.out.below hb1)
      have HBs1 := Lib.hid (HBs.out.below hb1)
      clear hS hcs hb1 r0 r1 r2 r3 f0 f1 f2 f3 HB0 HR0 HBs kb
      rw [hl1] at hC ⊢
      go_wp2_with fail
      refine (firstLine ⟨l.toArray⟩ _ (by rw [Com.size_mk]; omega)).mono ?_
      rintro e w2 ⟨rfl, hb2⟩
      rw [show (ByteArray.mk l.toArray).data.toList = l from rfl]
      have HB2 := Lib.hid (HB1.out.trans (hb2.mono HB1.out.size))
      have HR2 := Lib.hid (HR1.out.below hb2)
      have HBs2 := Lib.hid (HBs1.out.below hb2)
      have hgl2 : gl < w2.heap.size := Nat.lt_of_lt_of_le hgl hb2.size
      have HC2 := Lib.hid (show ∀ (j : Nat) x, (l :: ls)[j]? = some x → w2.cell? ⟨gl, ol + j, none⟩ = some (.string ⟨x.toArray⟩) from fun j x hj => (hb2.cell (p := ⟨gl, _, none⟩) hgl).trans (HC.out j x hj))
      clear hb2 HB1 HR1 HBs1 HC c0
      unfold fv
      generalize (gm l).1 = m at *
      generalize (gm l).2 = t at *
      generalize isf l = okf at *
      obtain ⟨ol', hol, ks⟩ := Slc.cut_from (P := Tryz.prog) (t := 49) (by kernel_rfl) (s := 1) (fun _ => by kernel_rfl) gl ol (ls.length + 1) C 1 1 rfl (by omega)
      rw [Nat.add_sub_cancel] at ks
      have hb3 := (Below.refl w2.heap.size w2).alloc (Nat.le_refl _) (.cells #[.string ⟨m.toArray⟩, .string ⟨t.toArray⟩, .slice none 0 0, .slice none 0 0] 27)
      have HB3 := Lib.hid hb3
      have HQ3 := Lib.hid (show Rq w2.heap.size (w2.alloc (.cells #[.string ⟨m.toArray⟩, .string ⟨t.toArray⟩, .slice none 0 0, .slice none 0 0] 27)) (.string ⟨m.toArray⟩) (.string ⟨t.toArray⟩) (.slice none 0 0) (.slice none 0 0) from heap_alloc_new _ _)
      have hs3 : (w2.alloc (.cells #[.string ⟨m.toArray⟩, .string ⟨t.toArray⟩, .slice none 0 0, .slice none 0 0] 27)).heap.size = w2.heap.size + 1 := World.size_alloc _ _
      clear hb3
      go_wp2_with fail
      all_goals
        generalize hW3 : w2.alloc (.cells #[.string ⟨m.toArray⟩, .string ⟨t.toArray⟩, .slice none 0 0, .slice none 0 0] 27) = W3 at *
        clear hW3
        go_loopg [9, 49] ls.length (fun g okv iv wr => ∃ (k : Nat) (v : Value), k + g = ls.length ∧ iv = .int .i64 k ∧ okv = .bool (okf && (ls.take k).all fine) ∧
          Hid (Rq w2.heap.size wr (.string ⟨m.toArray⟩) (.string ⟨t.toArray⟩) v (.slice none 0 0)) ∧ Hid (wr.ownsRow W3.heap.size 39 2 v k (fcells ((ls.take k).map gf))) ∧ Hid (Below w2.heap.size w2 wr) ∧ W3.heap.size ≤ wr.heap.size)
        case atStart => exact ⟨0, .slice none 0 0, by simp, rfl, by simp, HQ3, World.ownsRow_nil _ _ _ _, HB3, Nat.le_refl _⟩
        case round =>
          obtain ⟨k, v, hkg, rfl, rfl, HQ, HO, HB, hzr⟩ := hrel
          have HG := Lib.hid hkg
          have hkx : k ≤ ls.length := by omega
          clear hkg
          by_cases hlt : k < ls.length
          · first
              | (exfalso; omega)
              | (obtain ⟨x, hx⟩ : ∃ x, ls[k]? = some x := ⟨ls[k], List.getElem?_eq_getElem hlt⟩
                 have cx : wr.cell? ⟨gl, ol' + k, none⟩ = some (.string ⟨x.toArray⟩) := (HB.out.cell (p := ⟨gl, _, none⟩) hgl2).trans (by rw [hol (by omega), show ol + 1 * 1 + k = ol + (k + 1) by omega]; exact HC2.out (k + 1) x (by simpa using hx))
                 have hxs : x.length ≤ i := HSZ.out x (List.mem_of_getElem? hx)
                 have EA := Lib.hid (all_snoc hx)
                 have EM := Lib.hid (map_snoc hx)
                 clear hx
                 go_wp2_with fail
                 refine (fieldOf ⟨x.toArray⟩ _ (by rw [Com.size_mk]; omega)).mono ?_
                 rintro e wf ⟨rfl, hbf⟩
                 rw [show (ByteArray.mk x.toArray).data.toList = x from rfl]
                 unfold gv
                 have HQf := Lib.hid (HQ.out.below hbf)
                 have HOf := Lib.hid (Com.own_below HO.out hbf)
                 have HBf := Lib.hid (HB.out.trans (hbf.mono HB.out.size))
                 have hzf := hbf.size
                 obtain ⟨f, hgf⟩ : ∃ f, gf x = f := ⟨_, rfl⟩
                 rw [hgf] at EM ⊢
                 obtain ⟨fn, fw⟩ := f
                 simp only
                 have hb4 : Below wf.heap.size wf (wf.alloc (.cells #[.string ⟨fn.toArray⟩, .string ⟨fw.toArray⟩] 39)) := (Below.refl _ _).alloc (Nat.le_refl _) _
                 have HO9 := Lib.hid (Com.own_below HOf.out hb4)
                 have HQ9 := Lib.hid (HQf.out.below hb4)
                 obtain ⟨r0, r1, r2, r3, f0, f1, f2, f3⟩ := HQ9.out.cells
                 have q0 : (wf.alloc (.cells #[.string ⟨fn.toArray⟩, .string ⟨fw.toArray⟩] 39)).cell? ⟨wf.heap.size, 0, none⟩ = some (.string ⟨fn.toArray⟩) := by rw [Lib.cell_of_heap (heap_alloc_new _ _)]; rfl
                 have q1 : (wf.alloc (.cells #[.string ⟨fn.toArray⟩, .string ⟨fw.toArray⟩] 39)).cell? ⟨wf.heap.size, 1, none⟩ = some (.string ⟨fw.toArray⟩) := by rw [Lib.cell_of_heap (heap_alloc_new _ _)]; rfl
                 have hz9 : (wf.alloc (.cells #[.string ⟨fn.toArray⟩, .string ⟨fw.toArray⟩] 39)).heap.size = wf.heap.size + 1 := World.size_alloc _ _
                 have HB9 := Lib.hid (HBf.out.trans (hb4.mono HBf.out.size))
                 have EQ := Lib.hid (show (okf && (ls.take (k + 1)).all fine) = ((okf && (ls.take k).all fine) && fine x) by rw [EA.out, Bool.and_assoc])
                 clear hgf hb4 hbf HQ HO HB cx EA
                 generalize fine x = fx at *
                 generalize (okf && (ls.take k).all fine) = okk at *
                 cases okk
                 all_goals
                   go_wp2_with (at_builtin; refine wpList_append_own _ rfl _ _ 25 rfl W3.heap.size 39 i0 (.agg #[.string ⟨#[]⟩, .string ⟨#[]⟩]) 2 32 Tryz.underlying25 hi hz0 hz1 hz2 rfl (by decide) _ _ _ rfl (HO9.out.alloc _) ⟨wf.heap.size + 1, 0, none⟩ 1 1 [.string ⟨fn.toArray⟩, .string ⟨fw.toArray⟩] rfl rfl (cells_two' _ _ _ _ _ (World.size_alloc _ _)) (by simp [Value.oneCell']) (by unfold maxLen; omega) (by omega) (by simp; omega) ?_; intro v' W4 hown' hgrow _; obtain ⟨g4, cap4, rfl⟩ := own_form hown'; have hQ4 := rq_grown HQ9.out HO9.out hs3 hgrow; obtain ⟨y0, y1, y2, y3, z0, z1, z2, z3⟩ := hQ4.cells; have HQ4 := Lib.hid hQ4; clear hQ4)
                   have B4 : Below W3.heap.size (wf.alloc (.cells #[.string ⟨fn.toArray⟩, .string ⟨fw.toArray⟩] 39)) W4 := ((Below.refl _ _).alloc (by simp; omega) _).grown hgrow (by simp; omega) (fun j hj => (HO9.out.lt j hj).1)
                   have hownF : W4.ownsRow W3.heap.size 39 2 (.slice (some ⟨g4, 0, none⟩) (k + 1) cap4) (k + 1) (fcells ((ls.take (k + 1)).map gf)) := by
                     rw [EM.out, fcells_snoc]
                     exact hown'
                   go_roundg (ls.length - (k + 1))
                   case measure => have := HG.out; omega
                   case rel =>
                     refine ⟨k + 1, .slice (some ⟨g4, 0, none⟩) (k + 1) cap4, by omega, by go_num, by rw [EQ.out]; simp, HQ4.out.put3 _, ownsRow_setCell_below hownF (by simp; omega) _, ?_, ?_⟩
                     · exact (HB9.out.trans (B4.mono (by omega))).setCell (p := ⟨w2.heap.size, 2, none⟩) (Nat.le_refl _) _
                     · have := B4.size; simp [World.setCell] at this ⊢; omega)
          · obtain rfl : k = ls.length := by omega
            have hO := HO.out
            rw [List.take_length] at hO
            rw [List.take_length]
            have HBw := Lib.hid (HB2.out.trans (HB.out.mono HB2.out.size))
            have HRr := Lib.hid (HR2.out.below HB.out)
            have HBsr := Lib.hid (HBs2.out.below HB.out)
            have hwl := HR2.out.lt
            obtain ⟨r0, r1, r2, r3, f0, f1, f2, f3⟩ := HRr.out.cells
            obtain ⟨fs, hfs⟩ : ∃ fs, ls.map gf = fs := ⟨_, rfl⟩
            have hfl : ls.length = fs.length := by rw [← hfs, List.length_map]
            rw [hfs] at hO hP3 hP4
            generalize (okf && ls.all fine) = okk at *
            rw [hfl] at hO hP2 hP3 hP4
            obtain ⟨av, cv, rfl, hcv, hFs⟩ := fs_of_own hO
            have HFs := Lib.hid hFs
            have HO5 := Lib.hid hO
            obtain ⟨y0, y1, y2, y3, z0', z1', z2', z3'⟩ := HQ.out.cells
            clear hO hFs HO HG hkx hlt HC2 hfs HSZ
            obtain ⟨W5, rfl⟩ : ∃ W5, W5 = wr := ⟨_, rfl⟩
            cases okk
            · have HP := Lib.hid (hP1.out rfl)
              go_wp2_with fail
              refine bodyPost_ret (run3 (HRr.out.put _ _ _ _) rfl rfl rfl rfl) rfl ⟨?_, below_four HBw.out _ _ _ _⟩
              exact rp_no HP.out rfl
            · by_cases h32 : 32 < fs.length
              · first
                  | (exfalso; omega)
                  | (have h32' : (32 : Int) < fs.length := by omega
                     have HP := Lib.hid (hP2.out rfl h32)
                     go_wp2_with fail
                     refine bodyPost_ret (run3 (HRr.out.put _ _ _ _) rfl rfl rfl rfl) rfl ⟨?_, below_four HBw.out _ _ _ _⟩
                     exact rp_no HP.out rfl)
              · have h32' : ¬ (32 : Int) < fs.length := by omega
                have HP3 := Lib.hid (hP3.out rfl h32)
                have HP4 := Lib.hid (hP4.out rfl h32)
                clear hP1 hP2 hP3 hP4
                go_wp2_with fail
                go_loopg [9, 15, 16, 80] fs.length (fun g okv zv lv iv wr => ∃ (k len : Nat) (ok : Bool) (z : Int), k + g = fs.length ∧ iv = .int .i64 k ∧ len ≤ k ∧ okv = .bool ok ∧ zv = .int .i64 z ∧ lv = .int .i64 len ∧ Hid (Sg fs k len ok z) ∧ Hid (Below W5.heap.size W5 wr))
                case atStart => exact ⟨0, 0, true, 0, by omega, rfl, Nat.le_refl _, rfl, rfl, rfl, Sg.start _, Below.refl _ _⟩
                case round =>
                  obtain ⟨k, len, ok, z, hkg, rfl, hlk, rfl, rfl, rfl, HSG, HB6⟩ := hrel
                  have HG := Lib.hid hkg
                  have hkx : k ≤ fs.length := by omega
                  clear hkg
                  have HR6 := Lib.hid (HRr.out.below HB6.out)
                  have HW6 := Lib.hid (HBw.out.trans (HB6.out.mono HBw.out.size))
                  by_cases hlt : k < fs.length
                  · first
                      | (exfalso; omega)
                      | (obtain ⟨q, hq⟩ : ∃ q, fs[k]? = some q := ⟨fs[k], List.getElem?_eq_getElem hlt⟩
                         obtain ⟨bb, oo, rfl, hbb, d0, d1⟩ := Fs.at HFs.out hq
                         have c0 := (HB6.out.cell (p := ⟨bb, oo + k * 2, none⟩) hbb).trans d0
                         have c1 := (HB6.out.cell (p := ⟨bb, oo + k * 2 + 1, none⟩) hbb).trans d1
                         obtain ⟨nm, vl⟩ := q
                         obtain ⟨x, rfl⟩ : ∃ x : ByteArray, vl = x.data.toList := ⟨⟨vl.toArray⟩, rfl⟩
                         simp only at c0 c1
                         rw [Com.mk_data] at c1
                         have hb7 : Below wr.heap.size wr (wr.alloc (.cells #[.string ⟨nm.toArray⟩, .string x] 39)) := (Below.refl _ _).alloc (Nat.le_refl _) _
                         have HR7 := Lib.hid (HR6.out.below hb7)
                         have HW7 := Lib.hid (HW6.out.trans (hb7.mono HW6.out.size))
                         have HB7 := Lib.hid (HB6.out.trans (hb7.mono HB6.out.size))
                         have q0 : (wr.alloc (.cells #[.string ⟨nm.toArray⟩, .string x] 39)).cell? ⟨wr.heap.size, 0, none⟩ = some (.string ⟨nm.toArray⟩) := by rw [Lib.cell_of_heap (heap_alloc_new _ _)]; rfl
                         have q1 : (wr.alloc (.cells #[.string ⟨nm.toArray⟩, .string x] 39)).cell? ⟨wr.heap.size, 1, none⟩ = some (.string x) := by rw [Lib.cell_of_heap (heap_alloc_new _ _)]; rfl
                         clear d0 d1 hb7 y0 y1 y2 y3 z0' z1' z2' z3' r0 r1 r2 r3 f0 f1 f2 f3
                         obtain ⟨r0, r1, r2, r3, f0, f1, f2, f3⟩ := HR7.out.cells
                         by_cases e1 : nm = te
                         · have t1 : (nm == [116, 114, 97, 110, 115, 102, 101, 114, 45, 101, 110, 99, 111, 100, 105, 110, 103]) = true := by rw [e1]; rfl
                           have HP := Lib.hid (HP3.out _ (Sg.bad hq e1))
                           clear hq e1
                           go_wp2_with fail
                           refine bodyPost_ret (run3 (HR7.out.put _ _ _ _) rfl rfl rfl rfl) rfl ⟨?_, below_four HW7.out _ _ _ _⟩
                           exact rp_no HP.out rfl
                         · have t1 : (nm == [116, 114, 97, 110, 115, 102, 101, 114, 45, 101, 110, 99, 111, 100, 105, 110, 103]) = false := by simpa [te] using e1
                           by_cases e2 : nm = cl
                           · have t2 : (nm == [99, 111, 110, 116, 101, 110, 116, 45, 108, 101, 110, 103, 116, 104]) = true := by rw [e2]; rfl
                             have HMORE := Lib.hid (fun (ok' : Bool) (z' : Int) h2 => HSG.out.more (ok' := ok') (z' := z') hq e2 h2)
                             have HNONE := Lib.hid HSG.out.none
                             clear e1 e2 hq
                             by_cases hok : ok = true ∧ 1 ≤ x.size ∧ x.size ≤ 9
                             · obtain ⟨rfl, v1, v9⟩ := hok
                               have v1' : (1 : Int) ≤ x.size := by omega
                               have v9' : (x.size : Int) ≤ 9 := by omega
                               have HD0 := Lib.hid (Dg.start (s := x.data.toList) (p := len = 0) (ok := true) (z := z) (fun h => HNONE.out h))
                               have hd1 : decide (1 ≤ x.data.toList.length) = true := decide_eq_true (by rw [Com.toList_length]; exact v1)
                               have hd2 : decide (x.data.toList.length ≤ 9) = true := decide_eq_true (by rw [Com.toList_length]; exact v9)
                               rw [hd1, hd2] at HD0
                               clear hd1 hd2
                               go_wp2_with fail
                               generalize hW7 : wr.alloc (.cells #[.string ⟨nm.toArray⟩, .string x] 39) = W7 at *
                               have hz7 : W7.heap.size = wr.heap.size + 1 := by rw [← hW7]; exact World.size_alloc _ _
                               clear hW7
                               go_loopg [9, 15, 19] x.size (fun g okv zv jv wr => ∃ (j : Nat) (ok : Bool) (z : Int), j + g = x.size ∧ jv = .int .i64 j ∧ okv = .bool ok ∧ zv = .int .i64 z ∧ Hid (Dg x.data.toList j (len = 0) ok z) ∧ wr = W7)
                               case atStart => exact ⟨0, true, z, by omega, rfl, rfl, rfl, HD0, rfl⟩
                               case round =>
                                 obtain ⟨j, ok, z, hjg, rfl, rfl, rfl, HDG, rfl⟩ := hrel
                                 have hjx : j ≤ x.size := by omega
                                 have HJ := Lib.hid hjg
                                 clear hjg
                                 have j0 : (0 : Int) ≤ j := by omega
                                 by_cases hcont : j < x.size ∧ ok = true
                                 · obtain ⟨hjl, rfl⟩ := hcont
                                   have j1 : (j : Int) < x.size := by omega
                                   have hcj := get_data hjl
                                   have hcl := UInt8.toNat_lt x[j]
                                   by_cases d1 : (48 : Int) ≤ x[j].toNat
                                   · by_cases d2 : (x[j].toNat : Int) ≤ 57
                                     · have HS := Lib.hid (fun (z' : Int) hz => HDG.out.yes (z' := z') hcj (rng_of d1 d2) hz)
                                       have e1 : IntKind.u8.wrap ((x[j].toNat : Int) - 48) = (x[j].toNat : Int) - 48 := HtD.u8_wrap (by omega) (by omega)
                                       clear hcj
                                       go_wp2_with fail
                                       go_roundg (x.size - (j + 1))
                                       case measure => have := HJ.out; omega
                                       case rel => exact ⟨j + 1, true, _, by omega, by go_num, rfl, rfl, HS.out _ (by simp only [wrap64, IntKind.wrap_i64]), rfl⟩
                                     · have HS := Lib.hid (fun (z' : Int) => Dg.no (p := len = 0) (z' := z') hcj (rng_hi (by omega)))
                                       clear hcj
                                       go_wp2_with fail
                                       go_roundg (x.size - (j + 1))
                                       case measure => have := HJ.out; omega
                                       case rel => exact ⟨j + 1, false, _, by omega, by go_num, rfl, rfl, HS.out _, rfl⟩
                                   · have HS := Lib.hid (fun (z' : Int) => Dg.no (p := len = 0) (z' := z') hcj (rng_lo (by omega)))
                                     clear hcj
                                     go_wp2_with fail
                                     go_roundg (x.size - (j + 1))
                                     case measure => have := HJ.out; omega
                                     case rel => exact ⟨j + 1, false, _, by omega, by go_num, rfl, rfl, HS.out _, rfl⟩
                                 · have HS := Lib.hid (HMORE.out ok z (fun h0 => HDG.out.fin (by
                                     rw [Com.toList_length]
                                     cases ok
                                     · exact .inr rfl
                                     · exact .inl (by have : ¬ j < x.size := fun h => hcont ⟨h, rfl⟩
                                                      omega)) h0))
                                   have hcase : (¬ (j : Int) < x.size) ∨ ((j : Int) < x.size ∧ ok = false) := by
                                     rcases Nat.lt_or_ge j x.size with h | h
                                     · refine .inr ⟨by omega, ?_⟩
                                       cases ok
                                       · rfl
                                       · exact absurd ⟨h, rfl⟩ hcont
                                     · exact .inl (by omega)
                                   clear hcont
                                   rcases hcase with j1 | ⟨j1, rfl⟩
                                   all_goals
                                     go_wp2_with fail
                                     go_roundg (fs.length - (k + 1))
                                     case measure => have := HG.out; omega
                                     case rel => exact ⟨k + 1, len + 1, _, z, by omega, by go_num, by omega, rfl, rfl, by go_num, HS, HB7⟩
                             · have hcase : ok = false ∨ (ok = true ∧ ¬ (1 : Int) ≤ x.size) ∨ (ok = true ∧ (1 : Int) ≤ x.size ∧ ¬ (x.size : Int) ≤ 9) := by
                                 cases ok
                                 · exact .inl rfl
                                 · rcases Nat.lt_or_ge x.size 1 with h | h
                                   · exact .inr (.inl ⟨rfl, by omega⟩)
                                   · exact .inr (.inr ⟨rfl, by omega, fun h9 => hok ⟨rfl, h, by omega⟩⟩)
                               have HS := Lib.hid (fun (z' : Int) => HMORE.out false z' (fun h0 => ⟨Iff.intro (fun h => by cases h) (fun hg => absurd (show ok = true ∧ 1 ≤ x.size ∧ x.size ≤ 9 from ⟨(HNONE.out h0).1, by have h1 := hg.1; rwa [Com.toList_length] at h1, by have h1 := hg.2.1; rwa [Com.toList_length] at h1⟩) hok), fun h => by cases h⟩))
                               clear hok
                               rcases hcase with rfl | ⟨rfl, v1⟩ | ⟨rfl, v1, v9⟩
                               all_goals
                                 go_wp2_with fail
                                 generalize hW7 : wr.alloc (.cells #[.string ⟨nm.toArray⟩, .string x] 39) = W7 at *
                                 have hz7 : W7.heap.size = wr.heap.size + 1 := by rw [← hW7]; exact World.size_alloc _ _
                                 clear hW7
                                 go_loopg [9, 15, 19] 0 (fun _ okv zv jv wr => jv = .int .i64 0 ∧ okv = .bool false ∧ zv = .int .i64 z ∧ wr = W7)
                                 case atStart => exact ⟨rfl, rfl, rfl, rfl⟩
                                 case round =>
                                   obtain ⟨rfl, rfl, rfl, rfl⟩ := hrel
                                   by_cases v0 : (0 : Int) < x.size
                                   · first
                                       | (exfalso; omega)
                                       | (go_wp2_with fail
                                          go_roundg (fs.length - (k + 1))
                                          case measure => have := HG.out; omega
                                          case rel => exact ⟨k + 1, len + 1, _, z, by omega, by go_num, by omega, rfl, rfl, by go_num, HS.out z, HB7⟩)
                                   · first
                                       | (exfalso; omega)
                                       | (go_wp2_with fail
                                          go_roundg (fs.length - (k + 1))
                                          case measure => have := HG.out; omega
                                          case rel => exact ⟨k + 1, len + 1, _, z, by omega, by go_num, by omega, rfl, rfl, by go_num, HS.out z, HB7⟩)
                           · have t2 : (nm == [99, 111, 110, 116, 101, 110, 116, 45, 108, 101, 110, 103, 116, 104]) = false := by simpa [cl] using e2
                             have HS := Lib.hid (HSG.out.skip hq e1 e2)
                             clear e1 e2 hq
                             go_wp2_with fail
                             go_roundg (fs.length - (k + 1))
                             case measure => have := HG.out; omega
                             case rel => exact ⟨k + 1, len, ok, z, by omega, by go_num, by omega, rfl, rfl, rfl, HS, HB7⟩)
                  · obtain rfl : k = fs.length := by omega
                    obtain ⟨r0', r1', r2', r3', f0', f1', f2', f3'⟩ := HR6.out.cells
                    have HQ6 := Lib.hid (show Rq w2.heap.size wr (.string ⟨m.toArray⟩) (.string ⟨t.toArray⟩) (.slice av fs.length cv) (.slice none 0 0) from (HB6.out.block _ (by omega)).trans HQ.out)
                    clear y0 y1 y2 y3 z0' z1' z2' z3' r0 r1 r2 r3 f0 f1 f2 f3 HG hlt hkx
                    cases ok
                    · have HP := Lib.hid (HP3.out _ (HSG.out.fin_bad (.inl rfl)))
                      go_wp2_with fail
                      refine bodyPost_ret (run3 (HR6.out.put _ _ _ _) rfl rfl rfl rfl) rfl ⟨?_, below_four HW6.out _ _ _ _⟩
                      exact rp_no HP.out rfl
                    · by_cases hl1 : 1 < len
                      · first
                          | (exfalso; omega)
                          | (have hl1' : (1 : Int) < len := by omega
                             have HP := Lib.hid (HP3.out _ (HSG.out.fin_bad (.inr hl1)))
                             go_wp2_with fail
                             refine bodyPost_ret (run3 (HR6.out.put _ _ _ _) rfl rfl rfl rfl) rfl ⟨?_, below_four HW6.out _ _ _ _⟩
                             exact rp_no HP.out rfl)
                      · have hl1' : ¬ (1 : Int) < len := by omega
                        obtain ⟨hz, hsz⟩ := HSG.out.fin_ok hl1
                        by_cases hbig : 1024 < z
                        · rw [if_pos hbig] at hsz
                          have HP := Lib.hid (HP3.out _ hsz)
                          clear hsz
                          go_wp2_with fail
                          refine bodyPost_ret (run3 (HR6.out.put _ _ _ _) rfl rfl rfl rfl) rfl ⟨?_, below_four HW6.out _ _ _ _⟩
                          exact rp_no HP.out rfl
                        · rw [if_neg hbig] at hsz
                          have HP := Lib.hid (HP4.out _ hsz)
                          clear hsz HSG
                          obtain ⟨kk, rfl⟩ : ∃ kk : Nat, z = kk := ⟨z.toNat, by omega⟩
                          by_cases hsh : b.length - (i + 4) < kk
                          · have t1 : (b.length : Int) - ((i : Int) + 4) < (kk : Int) := by omega
                            go_wp2_with fail
                            refine bodyPost_ret (run3 (HR6.out.put _ _ _ _) rfl rfl rfl rfl) rfl ⟨?_, below_four HW6.out _ _ _ _⟩
                            exact rp_none (by rw [HP.out, if_pos (by simpa using hsh)])
                          · have t1 : ¬ (b.length : Int) - ((i : Int) + 4) < (kk : Int) := by omega
                            have HPX := HP.out
                            rw [Int.toNat_natCast, if_neg hsh] at HPX
                            have hkb : kk ≤ 1024 := by omega
                            have hlk : i + 4 + kk ≤ b.length := by omega
                            obtain ⟨q, hq, kq⟩ := Slc.cut_mid (P := Tryz.prog) (t := 22) (by kernel_rfl) (s := 1) (fun _ => by kernel_rfl) g o b.length c (i + 4) kk ((i : Int) + 4) ((i : Int) + 4 + kk) (by omega) (by omega) (by omega)
                            obtain ⟨X1, hX1, hXl⟩ : ∃ X1, X1 = (b.drop (i + 4)).take kk ∧ X1.length = kk := ⟨_, rfl, by rw [List.length_take, List.length_drop]; omega⟩
                            have hBX : Bs (wr.alloc (.cells #[] 5)) (some ⟨g, q, none⟩) X1 (c - (i + 4)) := by
                              by_cases hce : i + 4 < c
                              · rw [hq hce, Nat.mul_one, hX1]
                                exact (((HBsr.out.below HB6.out).part (i + 4) kk hlk (c - (i + 4)) (by omega)).below ((Below.refl wr.heap.size wr).alloc (Nat.le_refl _) (.cells #[] 5)))
                              · have h0 : X1 = [] := List.eq_nil_of_length_eq_zero (by omega)
                                exact ⟨by omega, (fun h => by cases h), .inl h0⟩
                            rw [← hX1] at HPX
                            subst hXl
                            have HPZ := Lib.hid HPX
                            have HBX := Lib.hid hBX
                            have hXX : X1.length ≤ 1024 := hkb
                            have C1 : wr.heap.size ≤ (wr.alloc (.cells #[] 5)).heap.size := by simp
                            have C2 : X1.length ≤ 140737488355328 := by omega
                            clear HP HPX hX1 hBX t1 hq
                            go_wp2_with (at_builtin; refine append_first _ rfl (.tmp 155) (.tmp 161) rfl wr.heap.size wr.heap.size X1 (own_fresh' _ _ wr.heap.size rfl (Nat.le_refl _)) (some ⟨g, q, none⟩) (c - (i + 4)) HBX.out C1 C2 rfl rfl ?_)
                            intro ab cb w8 o8 b8
                            have HB8 := Lib.hid ((HW6.out.alloc HW6.out.size (.cells #[] 5)).trans (b8.mono HW6.out.size))
                            have HQ8 := Lib.hid ((b8.block w2.heap.size (by have := HQ6.out.lt; omega)).trans ((Below.heap_alloc wr (.cells #[] 5) w2.heap.size HQ6.out.lt).trans HQ6.out))
                            have HR8 := Lib.hid ((b8.block w.heap.size (by have := HR6.out.lt; omega)).trans ((Below.heap_alloc wr (.cells #[] 5) w.heap.size HR6.out.lt).trans HR6.out))
                            have HF8 := Lib.hid ((HFs.out.below HB6.out).below (((Below.refl wr.heap.size wr).alloc (Nat.le_refl _) (.cells #[] 5)).trans b8))
                            have HO8 := Lib.hid o8
                            have hzw : W3.heap.size ≤ wr.heap.size := Nat.le_trans hzr HB6.out.size
                            clear o8 b8 r0' r1' r2' r3' f0' f1' f2' f3'
                            obtain ⟨r0, r1, r2, r3, f0, f1, f2, f3⟩ := Rq.cells HR8.out
                            obtain ⟨y0, y1, y2, y3, e0, e1, e2, e3⟩ := Rq.cells HQ8.out
                            have n1 : ¬ w2.heap.size = w.heap.size := by omega
                            have n2 : ¬ w.heap.size = w2.heap.size := by omega
                            go_wp2_with fail
                            refine bodyPost_ret (run3 ((Rq.far HR8.out (p := ⟨w2.heap.size, 3, none⟩) n2 _).put _ _ _ _) rfl rfl rfl rfl) rfl ⟨?_, below_four (HB8.out.setCell (p := ⟨w2.heap.size, 3, none⟩) (by simp; omega) _) _ _ _ _⟩
                            unfold RPost
                            rw [HPZ.out]
                            refine ⟨av, cv, ab, cb, rfl, ?_, ?_, by omega⟩
                            · refine Fs.blocks HF8.out (by simp [World.setCell]) fun p hp _ => ?_
                              have hq1 := (HO5.out.lt p.block (by rw [hp]; rfl)).1
                              exact (Below.heap_setCell _ _ _ _ (by simp; omega)).trans ((Below.heap_setCell _ _ _ _ (by simp; omega)).trans ((Below.heap_setCell _ _ _ _ (by simp; omega)).trans ((Below.heap_setCell _ _ _ _ (by simp; omega)).trans (Below.heap_setCell _ _ _ _ (by simp; omega)))))
                            · have hww := HQ6.out.lt
                              refine (HtX.bs_own (ownsRow_setCell_below (ownsRow_setCell_below (ownsRow_setCell_below (ownsRow_setCell_below (ownsRow_setCell_below HO8.out (a := ⟨w2.heap.size, 3, none⟩) (by simp; omega) _) (a := ⟨w.heap.size, 0, none⟩) (by simp; omega) _) (a := ⟨w.heap.size, 1, none⟩) (by simp; omega) _) (a := ⟨w.heap.size, 2, none⟩) (by simp; omega) _) (a := ⟨w.heap.size, 3, none⟩) (by simp; omega) _)).1
end Go.Proofs.YtnhjbcjeeilicaaGreatDoor.HtBG
