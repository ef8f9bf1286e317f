/-
  The walk of package http's Parse.
-/
import Derived.Test.YtnhjbcjeeilicaaGreatDoorHtH
import Derived.Lib.SlBytesConst
namespace Go.Proofs.YtnhjbcjeeilicaaGreatDoor.HtI
open Go.RowKit Go.Proofs.YtnhjbcjeeilicaaGreatDoor Go.Proofs.YtnhjbcjeeilicaaGreatDoor.Ht Go.Proofs.YtnhjbcjeeilicaaGreatDoor.HtW Go.Proofs.YtnhjbcjeeilicaaGreatDoor.HtC Go.Proofs.YtnhjbcjeeilicaaGreatDoor.HtG Go.Proofs.YtnhjbcjeeilicaaGreatDoor.HtH

theorem bytesOf_map (l : List UInt8) : Lib.bytesOf (l.map fun x => (x.toNat : Int)) = l := by
  simp [Lib.bytesOf, Function.comp_def]
theorem Bs.at {w : World} {p : Addr} {l : List UInt8} {c : Nat} (h : Bs w (some p) l c) : ∀ i, i < l.length → w.cell? (p.add i) = some (.int .u8 ((l.map fun x => (x.toNat : Int)).getD i 0)) := by
  intro i hi
  have := h.cells i (.int .u8 (l[i].toNat : Int)) (by simp [Lib.byteCells, List.getElem?_eq_getElem hi])
  rw [this]
  simp [List.getD_eq_getElem?_getD, List.getElem?_eq_getElem hi]
theorem index (a : Option Addr) (l : List UInt8) (c B : Nat) (w : World) (hb : Bs w a l c) (hs : l.length < 4294967281) (h0 : ∀ i, i < 4 → w.cell? ⟨B, i, none⟩ = some (.int .u8 (([13, 10, 13, 10] : List Int).getD i 0))) (hm : Mx w) :
    Calls Tryz.prog 13 #[.slice a l.length c, .slice (some ⟨B, 0, none⟩) 4 4] w fun e w' => e = .returned (.int .i64 (Lib.index l crlf2)) ∧ Below w.heap.size w w' := by
  cases a with
  | none =>
    obtain rfl := hb.2.1 rfl
    obtain rfl : l = [] := List.eq_nil_of_length_eq_zero (by have := hb.1; omega)
    refine (Tryz.bytes_Index_nil (some ⟨B, 0, none⟩) 4 4 w (by omega) (fun h => absurd h (by decide))).mono ?_
    rintro e w' ⟨rfl, hw'⟩
    obtain rfl := hw'.symm
    exact ⟨rfl, Below.refl _ _⟩
  | some p =>
    obtain ⟨m, hm⟩ := hm
    refine (Tryz.bytes_Index_at p ⟨B, 0, none⟩ l.length c 4 4 (l.map fun x => (x.toNat : Int)) [13, 10, 13, 10] m w (by simp) rfl ?_ (by decide) (Bs.at hb) (fun i hi => by rw [addr_add, Nat.zero_add]; exact h0 i hi) hb.1 hs (by omega) hm).mono ?_
    · intro x hx
      obtain ⟨y, _, rfl⟩ := List.mem_map.1 hx
      have := UInt8.toNat_lt y
      omega
    · rintro e w' ⟨rfl, q, rfl⟩
      rw [bytesOf_map]
      exact ⟨rfl, below_drewN (Below.refl _ _) q⟩
theorem clone (p : Addr) (l : List UInt8) (c : Nat) (w : World) (hb : Bs w (some p) l c) (hs : l.length ≤ 140737488355328) :
    Calls Tryz.prog 16 #[.slice (some p) l.length c] w fun e w' => (∃ a c', e = .returned (.slice a l.length c') ∧ w'.ownsRow w.heap.size 5 1 (.slice a l.length c') l.length (Lib.byteCells l)) ∧ Below w.heap.size w w' := by
  refine (Tryz.bytes_Clone_at p l.length c (l.map fun x => (x.toNat : Int)) w (by simp) hs (Bs.at hb)).mono ?_
  rintro e w' ⟨v', rfl, ho, _, hbl⟩
  rw [show (l.map fun x => (x.toNat : Int)).map (Value.int .u8) = Lib.byteCells l by simp [Lib.byteCells, Function.comp_def]] at ho
  obtain ⟨a, c', rfl, _⟩ := bs_of_own ho
  exact ⟨⟨a, c', rfl, ho⟩, hbl⟩
theorem run3 {B : Nat} {w : World} {a b c d v3 v4 : Value} (h : Rq B w a b c d) {fn : Func} (e : fn.results = #[.cell 2 27, .tmp 3, .tmp 4]) {tmps : Array Value} (h2 : tmps.getD 2 undef = .pointer (some ⟨B, 0, none⟩)) (h3 : tmps.getD 3 undef = v3) (h4 : tmps.getD 4 undef = v4) :
    (results fn tmps).run Tryz.prog w = .ok (.tuple #[.agg #[a, b, c, d], v3, v4]) w := by
  obtain ⟨r0, r1, r2, r3, _⟩ := h.cells
  have h2' : tmps[2]?.getD undef = .pointer (some ⟨B, 0, none⟩) := by simpa using h2
  have h3' : tmps[3]?.getD undef = v3 := by simpa using h3
  have h4' : tmps[4]?.getD undef = v4 := by simpa using h4
  simp only [results, e]
  simp [h2', h3', h4', go_sem, r0, r1, r2, r3, Result.andThen]

theorem heap_alloc_new' (w : World) (C : Array Value) (e : TypeId) (z : Nat × Nat) : (w.alloc (.cells C e z)).heap[w.heap.size]? = some (.cells C e z) := heap_alloc_new w _
theorem Bs.take' {w : World} {a : Option Addr} {l : List UInt8} {c : Nat} (h : Bs w a l c) (n : Nat) : Bs w a (l.take n) c := by
  refine ⟨by rw [List.length_take]; have := h.1; omega, h.2.1, h.2.2.imp (fun h => by rw [h]; simp) fun ⟨b, o, h1, h2, h3⟩ => ⟨b, o, h1, h2, fun j x hj => ?_⟩⟩
  rw [List.getElem?_take] at hj
  split at hj
  · exact h3 j x hj
  · cases hj
theorem size_le {fs : List Fld} {k : Nat} (h : Ht.size fs = .ok k) : k ≤ 1024 := by
  unfold Ht.size at h
  split at h
  · cases h
  · split at h
    · cases h; omega
    · split at h
      · split at h
        · cases h
        · cases h; omega
      · cases h
theorem Fs.blocks {w w' : World} {a : Option Addr} {fs : List Fld} (h : Fs w a fs) (hz : w.heap.size ≤ w'.heap.size) (hk : ∀ p, a = some p → p.block < w.heap.size → w'.heap[p.block]? = w.heap[p.block]?) : Fs w' a fs := by
  rcases h with h | ⟨b, o, rfl, h2, h3⟩
  · exact .inl h
  · have e := hk _ rfl h2
    refine .inr ⟨b, o, rfl, Nat.lt_of_lt_of_le h2 hz, fun j p hj => ⟨(World.cell?_of_block (w := w) (a := ⟨b, o + j * 2, none⟩) e).trans (h3 j p hj).1, (World.cell?_of_block (w := w) (a := ⟨b, o + j * 2 + 1, none⟩) e).trans (h3 j p hj).2⟩⟩
theorem own_lower {w : World} {base base' : Nat} {e : TypeId} {size : Nat} {v : Value} {n : Nat} {xs : List Value} (h : w.ownsRow base e size v n xs) (hb : base' ≤ base) : w.ownsRow base' e size v n xs := by
  refine ⟨h.1, ?_⟩
  rcases h.2 with h2 | ⟨g, cap, cur, h2, h3, h4⟩
  · exact .inl h2
  · exact .inr ⟨g, cap, cur, h2, Nat.le_trans hb h3, h4⟩
def ParsePost (w : World) (b : List UInt8) (aR aL : Addr) (e : Ending) (w' : World) : Prop := match Ht.parse b with
  | .none => e = .returned (.tuple #[noReq, .int .i64 0, .nilIface])
  | .no er => e = .returned (.tuple #[noReq, .int .i64 0, erv aR aL er])
  | .ok m t fs body n => ∃ af cf ab cb, e = .returned (.tuple #[.agg #[.string ⟨m.toArray⟩, .string ⟨t.toArray⟩, .slice af fs.length cf, .slice ab body.length cb], .int .i64 (n : Int), .nilIface]) ∧ Fs w' af fs ∧ w'.ownsRow w.heap.size 5 1 (.slice ab body.length cb) body.length (Lib.byteCells body) ∧ fs.length ≤ 32 ∧ ∀ p, af = some p → w.heap.size ≤ p.block

theorem Bs.take {w : World} {a : Option Addr} {l : List UInt8} {c : Nat} (h : Bs w a l c) (n : Nat) (hn : n ≤ l.length) : Bs w a (l.take n) c := by
  refine ⟨by rw [List.length_take]; have := h.1; omega, h.2.1, h.2.2.imp (fun h => by rw [h]; simp) fun ⟨b, o, h1, h2, h3⟩ => ⟨b, o, h1, h2, fun j x hj => ?_⟩⟩
  rw [List.getElem?_take] at hj
  split at hj
  · exact h3 j x hj
  · cases hj

set_option maxHeartbeats 4000000 in
set_option maxRecDepth 100000 in
theorem parse (a : Option Addr) (b : List UInt8) (c : Nat) (w : World) {aR aL : Addr} (hb : Bs w a b c) (hs : b.length ≤ 140737488355328) (hm : Mx w) (he : Errs w aR aL) :
    Calls Tryz.prog 6 #[.slice a b.length c] w fun e w' => ParsePost w b aR aL e w' ∧ Below w.heap.size w w' := by
  have kc := Lib.run_convert_bytes_const (P := Tryz.prog) (w.alloc (.cells #[.string ⟨#[]⟩, .string ⟨#[]⟩, .slice none 0 0, .slice none 0 0] 27)) 22 5 #[.int .u8 13, .int .u8 10, .int .u8 13, .int .u8 10] 4 4 Tryz.underlying22 Tryz.underlying5
  rw [World.size_alloc] at kc
  have hcb := hb.1
  obtain ⟨T, hT⟩ : ∃ T, T = b.take 2048 := ⟨_, rfl⟩
  have hTl : T.length ≤ b.length := by rw [hT, List.length_take]; omega
  have hmn : (min (b.length : Int) 2048).toNat = T.length := by rw [hT, List.length_take]; omega
  have HT := Lib.hid hT
  have hbT : Bs w a T c := by rw [hT]; exact Bs.take' hb 2048
  clear hT
  go_enter Tryz.func6, Tryz.ntmps6
  go_wp2_with fail
  have hB0 : Below w.heap.size w ((w.alloc (.cells #[.string ⟨#[]⟩, .string ⟨#[]⟩, .slice none 0 0, .slice none 0 0] 27)).alloc (.cells #[.int .u8 13, .int .u8 10, .int .u8 13, .int .u8 10] 5 (4, 5))) := ((Below.refl _ _).alloc (Nat.le_refl _) _).alloc (by simp) _
  have hC0 : ∀ i, i < 4 → ((w.alloc (.cells #[.string ⟨#[]⟩, .string ⟨#[]⟩, .slice none 0 0, .slice none 0 0] 27)).alloc (.cells #[.int .u8 13, .int .u8 10, .int .u8 13, .int .u8 10] 5 (4, 5))).cell? ⟨w.heap.size + 1, i, none⟩ = some (.int .u8 (([13, 10, 13, 10] : List Int).getD i 0)) := by
    intro i hi
    have h := heap_alloc_new' (w.alloc (.cells #[.string ⟨#[]⟩, .string ⟨#[]⟩, .slice none 0 0, .slice none 0 0] 27)) #[.int .u8 13, .int .u8 10, .int .u8 13, .int .u8 10] 5 (4, 5)
    rw [World.size_alloc] at h
    have : i = 0 ∨ i = 1 ∨ i = 2 ∨ i = 3 := by omega
    rcases this with rfl | rfl | rfl | rfl <;> (simp only [World.cell?, h]; rfl)
  have hR0 : Rq w.heap.size ((w.alloc (.cells #[.string ⟨#[]⟩, .string ⟨#[]⟩, .slice none 0 0, .slice none 0 0] 27)).alloc (.cells #[.int .u8 13, .int .u8 10, .int .u8 13, .int .u8 10] 5 (4, 5))) (.string ⟨#[]⟩) (.string ⟨#[]⟩) (.slice none 0 0) (.slice none 0 0) := (Below.heap_alloc _ _ _ (by simp)).trans (heap_alloc_new _ _)
  refine (index a T c (w.heap.size + 1) _ (hbT.below hB0) (by omega) hC0 (hm.below hB0)).mono ?_
  rintro e w1 ⟨rfl, hb1⟩
  have hB1 := hB0.trans (hb1.mono hB0.size)
  have HR1 := Lib.hid (hR0.below hb1)
  have HB1 := Lib.hid hB1
  have HBs := Lib.hid (hb.below hB1)
  have HE := Lib.hid (he.below hB1)
  have HM := Lib.hid (hm.below hB1)
  have hg2 : (0 : Nat) < w.heap.size := World.block_lt_of_cell? w _ he.large
  obtain ⟨r0, r1, r2, r3, f0, f1, f2, f3⟩ := HR1.out.cells
  have hw1l := HR1.out.lt
  clear hB0 hC0 hR0 hb1 hB1 hb hbT he hm kc hmn
  have hge := Lib.index_ge T crlf2
  by_cases hx : Lib.index T crlf2 = -1
  · have HP := Lib.hid (show Ht.parse b = if 2048 ≤ b.length then .no .large else .none by unfold Ht.parse; rw [← HT.out, if_pos hx])
    rw [hx]
    clear hge hx
    by_cases hbig : 2048 ≤ b.length
    · have hq := HE.out.large
      have n1 : (0 : Nat) ≠ w.heap.size := by omega
      have n2 : w.heap.size ≠ (0 : Nat) := by omega
      go_wp2_with fail
      go_region
      all_goals
        go_wp2
        refine bodyPost_ret (run3 (rq_drew (HR1.out.put _ _ _ _)) rfl rfl rfl rfl) rfl ⟨?_, (below_four HB1.out _ _ _ _).drew⟩
        unfold ParsePost
        rw [HP.out, if_pos hbig]
        rfl
    · go_wp2_with fail
      refine bodyPost_ret (run3 (HR1.out.put _ _ _ _) rfl rfl rfl rfl) rfl ⟨?_, below_four HB1.out _ _ _ _⟩
      unfold ParsePost
      rw [HP.out, if_neg hbig]
      rfl
  · have hrm := Lib.index_room T crlf2 (by omega)
    obtain ⟨n, hn⟩ : ∃ n : Nat, Lib.index T crlf2 = n := ⟨(Lib.index T crlf2).toNat, by omega⟩
    have h4 : crlf2.length = 4 := rfl
    have hnr : n + 4 ≤ T.length := by rw [hn, h4] at hrm; simp at hrm; omega
    have HP := Lib.hid (show Ht.parse b = match head (b.take n) with
      | .no e => .no e
      | .ok m t fs => match size fs with
        | .no e => .no e
        | .ok k => if b.length - (n + 4) < k then .none else .ok m t fs ((b.drop (n + 4)).take k) (n + 4 + k) by
      unfold Ht.parse
      rw [← HT.out, if_neg hx, hn]
      rfl)
    rw [hn]
    clear hge hx hn hrm h4
    have hTb : T.length ≤ 2048 := by rw [HT.out, List.length_take]; omega
    have kb := to_string (Bs.take HBs.out n (by omega))
    rw [List.length_take, Nat.min_eq_left (by omega)] at kb
    go_wp2_with fail
    refine (head ⟨(b.take n).toArray⟩ _ (by rw [Com.size_mk, List.length_take]; omega) HM.out HE.out).mono ?_
    rintro e w2 ⟨hhp, hb2⟩
    have hB2 := HB1.out.trans (hb2.mono HB1.out.size)
    have HR2 := Lib.hid (HR1.out.below hb2)
    have hw2l := hb2.size
    have HE2 := Lib.hid (HE.out.below hb2)
    have HBs2 := Lib.hid (HBs.out.below hb2)
    clear r0 r1 r2 r3 f0 f1 f2 f3 kb
    unfold HeadPost at hhp
    rw [show (ByteArray.mk (b.take n).toArray).data.toList = b.take n from rfl] at hhp
    cases hh : head (b.take n) with
    | no er =>
      rw [hh] at hhp
      simp only at hhp
      subst hhp
      have HPP := HP.out
      rw [hh] at HPP
      have HPN := Lib.hid HPP
      have hb3 : Below w2.heap.size w2 (w2.alloc (.cells #[.string ⟨#[]⟩, .string ⟨#[]⟩, .slice none 0 0, .slice none 0 0] 27)) := (Below.refl _ _).alloc (Nat.le_refl _) _
      have HR3 := Lib.hid (HR2.out.below hb3)
      have HB3 := Lib.hid (hB2.trans (hb3.mono hB2.size))
      obtain ⟨r0, r1, r2, r3, f0, f1, f2, f3⟩ := HR3.out.cells
      clear hb3 HPP hh hb2 hB2
      cases er <;> simp only [erv]
      all_goals
        go_wp2_with fail
        refine bodyPost_ret (run3 (HR3.out.put _ _ _ _) rfl rfl rfl rfl) rfl ⟨?_, below_four HB3.out _ _ _ _⟩
        unfold ParsePost
        rw [HPN.out]
        rfl
    | ok m t fs =>
      rw [hh] at hhp
      obtain ⟨af, cf, rfl, hfs, h32, haf⟩ := hhp
      have HPP := HP.out
      rw [hh] at HPP
      simp only at HPP
      have HPQ := Lib.hid HPP
      have hb3 : Below w2.heap.size w2 (w2.alloc (.cells #[.string ⟨m.toArray⟩, .string ⟨t.toArray⟩, .slice af fs.length cf, .slice none 0 0] 27)) := (Below.refl _ _).alloc (Nat.le_refl _) _
      have hQ3 : Rq w2.heap.size (w2.alloc (.cells #[.string ⟨m.toArray⟩, .string ⟨t.toArray⟩, .slice af fs.length cf, .slice none 0 0] 27)) (.string ⟨m.toArray⟩) (.string ⟨t.toArray⟩) (.slice af fs.length cf) (.slice none 0 0) := heap_alloc_new _ _
      have HR3 := Lib.hid (HR2.out.below hb3)
      have HB3 := Lib.hid (hB2.trans (hb3.mono hB2.size))
      have HE3 := Lib.hid (HE2.out.below hb3)
      have HBs3 := Lib.hid (HBs2.out.below hb3)
      have HF3 := Lib.hid (hfs.below hb3)
      have HQ3 := Lib.hid hQ3
      have hwl := HR2.out.lt
      have hafl : ∀ p, fs ≠ [] → af = some p → p.block < w2.heap.size := fun p hne hp => by
        rcases hfs with h | ⟨b', o', h, h2, _⟩
        · exact absurd h hne
        · rw [h] at hp; cases hp; exact h2
      clear hb3 hQ3 HPP hh hb2 hB2 hfs HP HR2 HE2 HBs2
      go_wp2_with fail
      refine (length ⟨m.toArray⟩ ⟨t.toArray⟩ _ cf _ HF3.out h32 HE3.out rfl).mono ?_
      rintro e w4 ⟨hsp, hb4⟩
      have HR4 := Lib.hid (HR3.out.below hb4)
      have HB4 := Lib.hid (HB3.out.trans (hb4.mono HB3.out.size))
      have HBs4 := Lib.hid (HBs3.out.below hb4)
      have HF4 := Lib.hid (HF3.out.below hb4)
      have HQ4 := Lib.hid (HQ3.out.below hb4)
      have hz4 : w2.heap.size + 1 ≤ w4.heap.size := by have := hb4.size; rwa [World.size_alloc] at this
      clear hb4
      obtain ⟨r0, r1, r2, r3, f0, f1, f2, f3⟩ := HR4.out.cells
      obtain ⟨y0, y1, y2, y3, z0, z1, z2, z3⟩ := HQ4.out.cells
      unfold SizePost at hsp
      cases hsz : size fs with
      | no er =>
        rw [hsz] at hsp
        simp only at hsp
        subst hsp
        have HPP := HPQ.out
        rw [hsz] at HPP
        have HPN := Lib.hid HPP
        clear HPP hsz
        cases er <;> simp only [erv]
        all_goals
          go_wp2_with fail
          refine bodyPost_ret (run3 (HR4.out.put _ _ _ _) rfl rfl rfl rfl) rfl ⟨?_, below_four HB4.out _ _ _ _⟩
          unfold ParsePost
          rw [HPN.out]
          rfl
      | ok k =>
        rw [hsz] at hsp
        simp only at hsp
        subst hsp
        have HPP := HPQ.out
        rw [hsz] at HPP
        simp only at HPP
        have HPN := Lib.hid HPP
        have hk1 : k ≤ 1024 := size_le hsz
        clear HPP hsz HPQ
        by_cases hsh : b.length - (n + 4) < k
        · have t1 : (b.length : Int) - ((n : Int) + 4) < (k : Int) := by omega
          go_wp2_with fail
          refine bodyPost_ret (run3 (HR4.out.put _ _ _ _) rfl rfl rfl rfl) rfl ⟨?_, below_four HB4.out _ _ _ _⟩
          unfold ParsePost
          rw [HPN.out, if_pos hsh]
          rfl
        · have t1 : ¬ (b.length : Int) - ((n : Int) + 4) < (k : Int) := by omega
          obtain ⟨bb, oo, rfl⟩ : ∃ bb oo, a = some ⟨bb, oo, none⟩ := by
            rcases HBs4.out.2.2 with h | ⟨b', o', h, _⟩
            · have h9 : b.length = 0 := by rw [h]; rfl
              omega
            · exact ⟨b', o', h⟩
          have hlk : n + 4 + k ≤ b.length := by omega
          have g1 : (n : Int) + 4 ≤ (n : Int) + 4 + k := by omega
          have g2 : (n : Int) + 4 + k ≤ (c : Int) := by omega
          clear t1
          by_cases hce : c = n + 4
          · have hk0 : k = 0 := by omega
            have hbn : b.length = n + 4 := by omega
            subst hk0
            go_wp2_with fail
            have hcl := clone ⟨bb, oo, none⟩ [] 0 w4 ⟨Nat.le_refl _, (fun h => by cases h), Or.inl rfl⟩ (by simp)
            refine hcl.mono ?_
            rintro e w5 ⟨⟨ab, cb, rfl, ho5⟩, hbl5⟩
            clear hcl
            simp only [List.length_nil] at ho5 ⊢
            have hb5 := hbl5
            have HR5 := Lib.hid (HR4.out.below hb5)
            have HQ5 := Lib.hid (HQ4.out.below hb5)
            have HB5 := Lib.hid (HB4.out.trans (hb5.mono HB4.out.size))
            have HF5 := Lib.hid (HF4.out.below hb5)
            have hz5 := hb5.size
            have HO5 := Lib.hid ho5
            clear r0 r1 r2 r3 f0 f1 f2 f3 y0 y1 y2 y3 z0 z1 z2 z3 hb5 hbl5 ho5
            obtain ⟨r0, r1, r2, r3, f0, f1, f2, f3⟩ := HR5.out.cells
            obtain ⟨y0, y1, y2, y3, z0, z1, z2, z3⟩ := HQ5.out.cells
            have n1 : ¬ w2.heap.size = w.heap.size := by omega
            have n2 : ¬ w.heap.size = w2.heap.size := by omega
            go_wp2_with fail
            refine bodyPost_ret (run3 ((Rq.far HR5.out (p := ⟨w2.heap.size, 3, none⟩) n2 _).put _ _ _ _) rfl rfl rfl rfl) rfl ⟨?_, below_four (HB5.out.setCell (p := ⟨w2.heap.size, 3, none⟩) (by simp; omega) _) _ _ _ _⟩
            unfold ParsePost
            rw [HPN.out, if_neg hsh]
            refine ⟨af, cf, ab, cb, by rw [show ((b.drop (n + 4)).take 0).length = 0 by rw [List.length_take, List.length_drop]; omega]; rfl, ?_, ?_, h32, fun p hp => by have := haf p hp; omega⟩
            · by_cases hfn : fs = []
              · exact .inl hfn
              refine Fs.blocks HF5.out (by simp [World.setCell]) fun p hp hlt => ?_
              have hq1 := haf p hp
              have hq2 : p.block < w2.heap.size := hafl p hfn hp
              refine (Below.heap_setCell _ _ _ _ (by simp; omega)).trans ((Below.heap_setCell _ _ _ _ (by simp; omega)).trans ((Below.heap_setCell _ _ _ _ (by simp; omega)).trans ((Below.heap_setCell _ _ _ _ (by simp; omega)).trans (Below.heap_setCell _ _ _ _ (by simp; omega)))))
            · have hbl : ((b.drop (n + 4)).take 0).length = 0 := by rw [List.length_take, List.length_drop]; omega
              rw [hbl]
              refine own_lower (base := w4.heap.size) ?_ (by omega)
              exact ownsRow_setCell_below (ownsRow_setCell_below (ownsRow_setCell_below (ownsRow_setCell_below (ownsRow_setCell_below HO5.out (a := ⟨w2.heap.size, 3, none⟩) (by simp; omega) _) (a := ⟨w.heap.size, 0, none⟩) (by simp; omega) _) (a := ⟨w.heap.size, 1, none⟩) (by simp; omega) _) (a := ⟨w.heap.size, 2, none⟩) (by simp; omega) _) (a := ⟨w.heap.size, 3, none⟩) (by simp; omega) _
          · go_wp2_with fail
            have hbl : ((b.drop (n + 4)).take k).length = k := by rw [List.length_take, List.length_drop]; omega
            have hcl := clone ⟨bb, oo + (n + 4), none⟩ ((b.drop (n + 4)).take k) (c - (n + 4)) w4 (HtW.Bs.part HBs4.out (n + 4) k hlk (c - (n + 4)) (by omega)) (by omega)
            rw [hbl] at hcl
            refine hcl.mono ?_
            rintro e w5 ⟨⟨ab, cb, rfl, ho5⟩, hbl5⟩
            clear hcl hbl
            have hb5 := hbl5
            have HR5 := Lib.hid (HR4.out.below hb5)
            have HQ5 := Lib.hid (HQ4.out.below hb5)
            have HB5 := Lib.hid (HB4.out.trans (hb5.mono HB4.out.size))
            have HF5 := Lib.hid (HF4.out.below hb5)
            have hz5 := hb5.size
            have HO5 := Lib.hid ho5
            clear r0 r1 r2 r3 f0 f1 f2 f3 y0 y1 y2 y3 z0 z1 z2 z3 hb5 hbl5 ho5
            obtain ⟨r0, r1, r2, r3, f0, f1, f2, f3⟩ := HR5.out.cells
            obtain ⟨y0, y1, y2, y3, z0, z1, z2, z3⟩ := HQ5.out.cells
            have n1 : ¬ w2.heap.size = w.heap.size := by omega
            have n2 : ¬ w.heap.size = w2.heap.size := by omega
            go_wp2_with fail
            refine bodyPost_ret (run3 ((Rq.far HR5.out (p := ⟨w2.heap.size, 3, none⟩) n2 _).put _ _ _ _) rfl rfl rfl rfl) rfl ⟨?_, below_four (HB5.out.setCell (p := ⟨w2.heap.size, 3, none⟩) (by simp; omega) _) _ _ _ _⟩
            unfold ParsePost
            rw [HPN.out, if_neg hsh]
            refine ⟨af, cf, ab, cb, by rw [show ((b.drop (n + 4)).take k).length = k by rw [List.length_take, List.length_drop]; omega]; rfl, ?_, ?_, h32, fun p hp => by have := haf p hp; omega⟩
            · by_cases hfn : fs = []
              · exact .inl hfn
              refine Fs.blocks HF5.out (by simp [World.setCell]) fun p hp hlt => ?_
              have hq1 := haf p hp
              have hq2 : p.block < w2.heap.size := hafl p hfn hp
              refine (Below.heap_setCell _ _ _ _ (by simp; omega)).trans ((Below.heap_setCell _ _ _ _ (by simp; omega)).trans ((Below.heap_setCell _ _ _ _ (by simp; omega)).trans ((Below.heap_setCell _ _ _ _ (by simp; omega)).trans (Below.heap_setCell _ _ _ _ (by simp; omega)))))
            · have hbl : ((b.drop (n + 4)).take k).length = k := by rw [List.length_take, List.length_drop]; omega
              rw [hbl]
              refine own_lower (base := w4.heap.size) ?_ (by omega)
              exact ownsRow_setCell_below (ownsRow_setCell_below (ownsRow_setCell_below (ownsRow_setCell_below (ownsRow_setCell_below HO5.out (a := ⟨w2.heap.size, 3, none⟩) (by simp; omega) _) (a := ⟨w.heap.size, 0, none⟩) (by simp; omega) _) (a := ⟨w.heap.size, 1, none⟩) (by simp; omega) _) (a := ⟨w.heap.size, 2, none⟩) (by simp; omega) _) (a := ⟨w.heap.size, 3, none⟩) (by simp; omega) _
end Go.Proofs.YtnhjbcjeeilicaaGreatDoor.HtI
