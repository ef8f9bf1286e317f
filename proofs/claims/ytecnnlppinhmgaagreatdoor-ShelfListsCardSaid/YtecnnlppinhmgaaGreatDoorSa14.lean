/-
  The walk of the document's digest (bollardref03.Sum).
-/
import Derived.Test.YtecnnlppinhmgaaGreatDoorSa06
import Derived.Test.YtecnnlppinhmgaaGreatDoorSa12
import Derived.Test.YtecnnlppinhmgaaGreatDoorSa13
import Derived.BigQuiet
import Derived.StillTailTactics
import Derived.Deep.OwnRows
namespace Go.Proofs.YtecnnlppinhmgaaGreatDoor.RsB
open Go.Proofs.YtecnnlppinhmgaaGreatDoor.ShaD (heap_setRow_other region_tail lay1 alloc_at maj_eq)
open Go.RowKit Go.Proofs.YtecnnlppinhmgaaGreatDoor Go.Proofs.YtecnnlppinhmgaaGreatDoor.Sha Go.Proofs.YtecnnlppinhmgaaGreatDoor.ShaA Go.Proofs.YtecnnlppinhmgaaGreatDoor.ShaB Go.Proofs.YtecnnlppinhmgaaGreatDoor.ShaC Go.Proofs.YtecnnlppinhmgaaGreatDoor.RsP Go.Proofs.YtecnnlppinhmgaaGreatDoor.RsA Go.Proofs.YtecnnlppinhmgaaGreatDoor.RsF Go.Proofs.YtecnnlppinhmgaaGreatDoor.HtW Go.Proofs.YtecnnlppinhmgaaGreatDoor.Lf Go.Proofs.YtecnnlppinhmgaaGreatDoor.ShaF Go.Proofs.YtecnnlppinhmgaaGreatDoor.ShaG

theorem lay0 {w : World} {o1 o8 : Array Value} {C : World → Prop} (h : ∀ w1 : World, w1.heap.size = w.heap.size + 2 → w1.heap[w.heap.size]? = some (.cells o1 63 (0, 0)) → Ws (w.heap.size + 1) 93 w1 (stw init) → Below w.heap.size w w1 → C w1) :
    C (((w.alloc (.cells o1 63)).alloc (.cells o8 93)).setRow (w.heap.size + 1) (wcells (stw init))) := by
  have hz : ((w.alloc (.cells o1 63)).alloc (.cells o8 93)).heap[w.heap.size + 1]? = some (.cells o8 93 (0, 0)) := by
    have := heap_alloc_new (w.alloc (.cells o1 63)) (.cells o8 93)
    rwa [World.size_alloc] at this
  refine h _ (by simp [World.setRow]) ?_ (heap_setRow _ hz) (below_row (((Below.refl _ _).alloc (Nat.le_refl _) _).alloc (by simp) _) (by omega) _)
  rw [heap_setRow_other _ (by omega)]
  exact (Below.heap_alloc _ _ _ (by simp)).trans (heap_alloc_new _ _)
theorem Out.high {p hi : Nat} {w w' : World} (h : Out p hi w w') {q : Addr} (hq : w.heap.size ≤ q.block) (u : Value) : Out p hi w (w'.setCell q u) :=
  ⟨h.os, h.tape, h.output, Nat.le_trans h.size (Nat.le_of_eq (by simp [World.setCell])), fun k hk hn => (heap_setCell_other _ _ _ _ (by omega)).trans (h.block k hk hn)⟩
theorem Out.alloc {p hi : Nat} {w w' : World} (h : Out p hi w w') (o : Obj) : Out p hi w (w'.alloc o) :=
  h.trans (hi' := 0) (Out.of_below ((Below.refl _ _).alloc (Nat.le_refl _) o)) (.inl (Nat.zero_le _))
theorem Out.setRow {p hi : Nat} {w w' : World} (h : Out p hi w w') {g : Nat} (hg : w.heap.size ≤ g) (cs : Array Value) : Out p hi w (w'.setRow g cs) :=
  ⟨h.os, h.tape, h.output, Nat.le_trans h.size (Nat.le_of_eq (by simp [World.setRow])), fun k hk hn => (heap_setRow_other _ (by omega)).trans (h.block k hk hn)⟩
theorem made : madeCells #[.int .u32 0] 64 = wcells (sz [] 0) := by
  have h : wcells (sz [] 0) = Array.replicate 64 (.int .u32 0) := by rfl
  rw [h]
  refine Array.ext (by simp [madeCells]) fun i h1 h2 => ?_
  simp [madeCells, Nat.mod_one]
/-- the digest's bytes while they are laid -/
def ot (l : List UInt8) (i : Nat) : List UInt8 := l.take i ++ List.replicate (32 - i) 0
theorem ot_all {l : List UInt8} (h : l.length = 32) : ot l 32 = l := by
  unfold ot
  rw [List.take_of_length_le (by omega)]
  exact List.append_nil _
theorem ot_length {l : List UInt8} (h : l.length = 32) {i : Nat} (hi : i ≤ 32) : (ot l i).length = 32 := by
  unfold ot
  rw [List.length_append, List.length_take, List.length_replicate]
  omega
theorem ot_set {l : List UInt8} {i : Nat} {x : UInt8} (hx : l[i]? = some x) (hi : i < 32) : (bcells (ot l i)).setIfInBounds i (.int .u8 (x.toNat : Int)) = bcells (ot l (i + 1)) := by
  have hl := (List.getElem?_eq_some_iff.1 hx).1
  have e : (ot l i).set i x = ot l (i + 1) := by
    unfold ot
    rw [List.set_append_right _ _ (by rw [List.length_take]; omega), List.length_take, Nat.min_eq_left (Nat.le_of_lt hl), Nat.sub_self]
    obtain ⟨n, hn⟩ : ∃ n, 32 - i = n + 1 := ⟨31 - i, by omega⟩
    rw [hn, show 32 - (i + 1) = n by omega, List.take_add_one, hx, List.append_assoc]
    rfl
  rw [← e]
  unfold bcells Lib.byteCells
  simp [List.map_set]
theorem ot_at {l : List UInt8} (h : l.length = 32) {i : Nat} (hi : i < 32) : ∃ v, (bcells (ot l i))[i]? = some v := by
  refine ⟨_, Array.getElem?_eq_getElem ?_⟩
  rw [bcells_size, ot_length h (by omega)]
  exact hi
theorem stw_lt {S : St} (h : S.ok) {q x : Nat} (hx : (stw S)[q]? = some x) : x < 4294967296 := by
  obtain ⟨h0, h1, h2, h3, h4, h5, h6, h7⟩ := h
  have := List.mem_of_getElem? hx
  simp only [stw, List.mem_cons, List.not_mem_nil, or_false] at this
  rcases this with rfl | rfl | rfl | rfl | rfl | rfl | rfl | rfl <;> assumption
theorem rrotI (x : Nat) (z : Int) (w : World) (hx : x < M) (h0 : 0 < z.toNat) (h1 : z.toNat < 32) (hz : (z.toNat : Int) = z := by decide) : Calls Tryz.prog 49 #[w32 x, .int .u64 z] w fun e w' => e = .returned (w32 (rotr x z.toNat)) ∧ w = w' := by
  have := rrot x z.toNat hx h0 h1 w
  rw [hz] at this
  exact this
theorem ch_eq2 (e f g : Nat) (he : e < M) (hf : f < M) (hg : g < M) : bits .xor .u32 (bits .and .u32 (e : Int) (f : Int)) (bits .and .u32 (bits .xor .u32 (e : Int) 4294967295) (g : Int)) = (ch e f g : Nat) := by
  have h1 : bits .xor .u32 (e : Int) 4294967295 = ((e ^^^ 4294967295 : Nat) : Int) := u32_xor_nat e 4294967295 he (by decide)
  have hn : e ^^^ 4294967295 < M := xor_lt he (by decide)
  rw [h1, u32_and_nat e f he hf, u32_and_nat _ g hn hg]
  exact u32_xor_nat _ _ (and_lt hf) (and_lt hg)
theorem t1_eq3 {X : St} (h : X.ok) (k w : Nat) : IntKind.u32.wrap (IntKind.u32.wrap (IntKind.u32.wrap (IntKind.u32.wrap ((X.h : Int) + bits .xor .u32 (bits .xor .u32 (rotr X.e 6 : Nat) (rotr X.e 11 : Nat)) (rotr X.e 25 : Nat)) + (ch X.e X.f X.g : Nat)) + (k : Int)) + (w : Int)) = (t1 X k w : Nat) := by
  obtain ⟨_, _, _, _, he, hf, hg, _⟩ := h
  rw [ShaB.xor3 _ _ _ (rotr_lt 6 he) (rotr_lt 11 he) (rotr_lt 25 he), ShaB.wrap_add, ShaB.wrap_add, ShaB.wrap_add, ShaB.wrap_add]
  rfl
theorem t2_eq3 {X : St} (h : X.ok) : IntKind.u32.wrap (bits .xor .u32 (bits .xor .u32 (rotr X.a 2 : Nat) (rotr X.a 13 : Nat)) (rotr X.a 22 : Nat) + (maj X.a X.b X.c : Nat)) = (t2 X : Nat) := by
  obtain ⟨ha, hb, hc, _, _, _, _, _⟩ := h
  rw [ShaB.xor3 _ _ _ (rotr_lt 2 ha) (rotr_lt 13 ha) (rotr_lt 22 ha), ShaB.wrap_add]
  rfl
theorem sh_len (s : St) (k : Nat) : (sh s k).length = 8 := by
  unfold sh
  split <;> rfl
theorem t2_eq4 {X : St} (h : X.ok) : (bits .xor .u32 (bits .xor .u32 (rotr X.a 2 : Nat) (rotr X.a 13 : Nat)) (rotr X.a 22 : Nat) + (maj X.a X.b X.c : Nat)) % 4294967296 = (t2 X : Nat) := by
  obtain ⟨ha, hb, hc, _, _, _, _, _⟩ := h
  rw [ShaB.xor3 _ _ _ (rotr_lt 2 ha) (rotr_lt 13 ha) (rotr_lt 22 ha)]
  unfold t2 e0 M
  omega
theorem rrotQ (x : Nat) (z : Int) (w : World) (n : Nat) (hx : x < M) (h0 : 0 < z.toNat) (h1 : z.toNat < 32) (hz : (z.toNat : Int) = z := by decide) : Calls Tryz.prog 49 #[w32 x, .int .u64 z] (w.drewN n) fun e w'' => e = .returned (w32 (rotr x z.toNat)) ∧ ∃ m, w'' = w.drewN m :=
  (rrotI x z (w.drewN n) hx h0 h1 hz).mono fun _ _ h => ⟨h.1, n, h.2.symm⟩
theorem blocks_succ (s : St) (l : List UInt8) (j : Nat) : blocks s (j + 1) l = digest (blocks s j l) ((l.drop (64 * j)).take 64) := by
  rw [blocks_add 1 j s l]
  rfl

set_option maxHeartbeats 4000000 in
set_option maxRecDepth 100000 in
theorem sum (b : List UInt8) {a : Option Addr} (c : Nat) (w : World) (hb : Bs w a b c) (hl : b.length ≤ 140737488350000) :
    Calls Tryz.prog 29 #[.slice a b.length c] w fun e w' => e = .returned (.agg (bcells (Sha.sha b))) ∧ Below w.heap.size w w' := by
  have HB := Lib.hid hb; clear hb
  have hi8 : (Tryz.prog.info? 93).map (·.size) = some (wcells (stw init)).size := by kernel_rfl
  have hs8 : (wcells (stw init)).size = 8 := rfl
  have hK := wcells_one (stw init)
  go_enter Tryz.func29, Tryz.ntmps29
  go_wp2_with (first
    | (guard_target =~ wpList _ _ _ ({ dst := _, op := Op.build 93 _, type := _, pos := _, after := _, guard := none } :: _) _ _; refine wpList_build_as rfl 93 _ rfl (wcells (stw init)) (by kernel_rfl) ?_)
    | (guard_target =~ wpList _ _ _ ({ dst := _, op := Op.store 93 _ _, type := _, pos := _, after := _, guard := none } :: _) _ _; refine wpList_store_row rfl 93 _ _ rfl _ _ rfl rfl _ _ (heap_alloc2_new _ _ _) hi8 hs8.symm hK ?_; refine lay0 ?_; intro w1 z1 hO1 hH1 hB1; clear hi8 hs8 hK)
    | (go_at_call 48; refine (message b c w1 (HB.out.below hB1) hl).mono ?_; rintro e w2 ⟨am, cm, rfl, hm, hb2⟩))
  have hs2 := hb2.size
  have hdN : ∀ q, am = some q → w.heap.size + 2 ≤ q.block := by
    intro q hq
    rcases hm.2 with ⟨hv, _⟩ | ⟨g, cap, cur, hv, hge, _⟩
    · simp only [Value.slice.injEq] at hv
      rw [hv.1] at hq
      cases hq
    · simp only [Value.slice.injEq] at hv
      rw [hv.1] at hq
      cases hq
      simp only
      omega
  have hBm := (HtX.bs_own hm).1
  have hH2 := hH1.below hb2
  have hO2 := (hb2.block w.heap.size (by omega)).trans hO1
  have hB2 : Below w.heap.size w w2 := hB1.trans (hb2.mono (by omega))
  have HM := Lib.hid hBm
  have HDN := Lib.hid (show pad b ≠ [] → ∀ q, am = some q → ¬ (w.heap.size + 1 ≤ q.block ∧ q.block < w.heap.size + 2) from fun _ q hq => by have := hdN q hq; omega)
  have HO2 := Lib.hid hO2
  have HB2 := Lib.hid hB2
  have HZ := Lib.hid (show w.heap.size + 2 ≤ w2.heap.size by omega)
  have hpm := pad_mod b
  have hpl : (pad b).length ≤ 140737488355328 := by
    rw [pad_length]
    have : zeros b.length < 64 := Nat.mod_lt _ (by decide)
    omega
  clear hBm hm hdN hO1 hH1 hB1 hb2 z1 hs2 hO2 hB2
  obtain ⟨N, hN⟩ : ∃ N, N = w.heap.size := ⟨_, rfl⟩
  rw [← hN] at HDN HO2 HB2 HZ hH2 ⊢
  have HN := Lib.hid hN; clear hN
  obtain ⟨m, hm⟩ : ∃ m, m = pad b := ⟨_, rfl⟩
  rw [← hm] at HM HDN hpm hpl ⊢
  have Hm := Lib.hid hm; clear hm
  refine wp_loop_ghost_k (fun g A W => FrA (.pointer (some ⟨N, 0, none⟩)) (.pointer (some ⟨N + 1, 0, none⟩)) (.slice am m.length cm) (fun v dl => dl = [] ∧ ∃ j p : Nat, j + g = m.length / 64 ∧ v = .int .i64 (p : Int) ∧ Hid (p = 64 * j) ∧ Hid (Ws (N + 1) 93 W (stw (blocks init j m))) ∧ Hid (Out (N + 1) (N + 2) w2 W)) A) (m.length / 64) ?start ?round
  case start => exact ⟨_, _, rfl, rfl, rfl, rfl, rfl, _, rfl, rfl, 0, 0, Nat.zero_add _, rfl, rfl, hH2, Out.refl _ _ _⟩
  case round =>
    intro g A W hI J K hJ hK
    have HJ := Lib.hid hJ
    have HK := Lib.hid hK
    clear hJ hK hH2
    refine unpackA (P := fun A => Code.wp _ _ _ A W) hI ?_
    intros
    rename_i hrel
    clear hI
    obtain ⟨rfl, j, p, hjg, rfl, HP, HH, HU⟩ := hrel
    have HG := Lib.hid hjg
    by_cases hlt : j < m.length / 64
    · have hjl : 64 * j + 64 ≤ m.length := by omega
      have hlt1 : (p : Int) < (m.length : Int) := by have := HP.out; omega
      obtain ⟨Z, hZ⟩ : ∃ Z, Z = wcells (sz [] 0) := ⟨_, rfl⟩
      have hmk : ∀ w : World, (Instr.makeSlice 94 (.int .i64 64) (.int .i64 64)).run Tryz.prog w = .ok (.slice (some ⟨w.heap.size, 0, none⟩) 64 64) (w.alloc (.cells Z 90)) := fun w => by
        have := run_make_row' (P := Tryz.prog) 94 90 (.int .u32 0) 4 Tryz.underlying94 (by kernel_rfl) rfl .i64 .i64 64 (by decide) (by decide) w
        rw [made, ← hZ] at this
        exact this
      have HZZ := Lib.hid hZ; clear hZ
      clear hjg hlt
      go_upto_region 7 with fail
      clear hmk
      have hG1 := heap_alloc_new W (.cells Z 90)
      have HU1 := Lib.hid (Out.alloc HU.out (.cells Z 90))
      have HH1 := Lib.hid (HH.out.below ((Below.refl W.heap.size W).alloc (Nat.le_refl _) (.cells Z 90)))
      have hG2 := HU.out.size
      generalize W.alloc _ = W1 at *
      obtain ⟨G, hG⟩ : ∃ G, G = W.heap.size := ⟨_, rfl⟩
      rw [← hG] at hG1 hG2 ⊢
      clear hG HH HU
      have HGW := Lib.hid hG2; clear hG2
      obtain ⟨l, hl2⟩ : ∃ l, l = (m.drop (64 * j)).take 64 := ⟨_, rfl⟩
      have hll : l.length = 64 := by rw [hl2, List.length_take, List.length_drop]; omega
      have HLM := Lib.hid (show ∀ (k : Nat) (x : UInt8), l[k]? = some x → m[p + k]? = some x from fun k x hk => by
        rw [hl2, List.getElem?_take] at hk
        split at hk
        · rw [List.getElem?_drop] at hk
          rw [HP.out]
          exact hk
        · cases hk)
      have HNX := Lib.hid (show blocks init (j + 1) m = digest (blocks init j m) l by rw [blocks_succ, hl2])
      have hok : (blocks init j m).ok := blocks_ok _ _ init_ok
      obtain ⟨X, hX⟩ : ∃ X, X = blocks init j m := ⟨_, rfl⟩
      rw [← hX] at HH1 HNX hok
      clear hX hl2
      have HG1 : Hid (Ws G 90 W1 (sz l 0)) := by rw [HZZ.out] at hG1; exact hG1
      clear hG1 HZZ
      obtain ⟨gB, oB, rfl, hgB, hcB⟩ : ∃ b o, am = some ⟨b, o, none⟩ ∧ b < w2.heap.size ∧ ∀ (j : Nat) x, m[j]? = some x → w2.cell? ⟨b, o + j, none⟩ = some (.int .u8 (x.toNat : Int)) := by
        rcases HM.out.2.2 with h | h
        · rw [h] at hjl; simp at hjl
        · exact h
      have hgN : ¬ (N + 1 ≤ gB ∧ gB < N + 2) := HDN.out (fun h => by rw [h] at hjl; simp at hjl) _ rfl
      have HCB := Lib.hid (show ∀ wr : World, Out (N + 1) (N + 2) w2 wr → ∀ (k : Nat) (x : UInt8), l[k]? = some x → wr.cell? ⟨gB, oB + (p + k), none⟩ = some (.int .u8 (x.toNat : Int)) from fun wr h k x hk => (World.cell?_of_block (a := ⟨gB, _, none⟩) (h.block gB hgB hgN)).trans (hcB _ x (HLM.out k x hk)))
      have HGB := Lib.hid (show ∀ wr : World, Out (N + 1) (N + 2) w2 wr → gB < wr.heap.size from fun wr h => Nat.lt_of_lt_of_le hgB h.size)
      clear hgN hcB hgB HLM
      go_wp2_with fail
      refine wp_loop_ghost_k (fun g A W => FrB (.pointer (some ⟨N, 0, none⟩)) (.pointer (some ⟨N + 1, 0, none⟩)) (.slice (some ⟨gB, oB, none⟩) m.length cm) (.int .i64 (p : Int)) (.slice (some ⟨G, 0, none⟩) 64 64) (fun v dl => dl = [] ∧ ∃ t : Nat, t + g = 64 ∧ v = .int .i64 (t : Int) ∧ Hid (Ws G 90 W (sz l t)) ∧ Hid (Ws (N + 1) 93 W (stw X)) ∧ Hid (Out (N + 1) (N + 2) w2 W)) A) 64 ?start ?round
      case start => exact ⟨_, _, rfl, rfl, rfl, rfl, rfl, rfl, rfl, _, rfl, rfl, 0, Nat.zero_add _, rfl, HG1, HH1, HU1⟩
      case round =>
        clear HG1 HH1 HU1
        intro g2 A2 W3 hI J2 K2 hJ2 hK2
        have HJ2 := Lib.hid hJ2
        have HK2 := Lib.hid hK2
        clear hJ2 hK2
        refine unpackB (P := fun A => Code.wp _ _ _ A W3) hI ?_
        intros
        rename_i hrel
        clear hI
        obtain ⟨rfl, t, htg, rfl, HW, HH, HU⟩ := hrel
        have HG2 := Lib.hid htg
        by_cases hlt : t < 64
        · by_cases h16 : t < 16
          · -- [T16
            have z0 : (t : Int) < 64 := by omega
            have z1 : (t : Int) < 16 := by omega
            have hsl : (sz l t).length = 64 := by
              unfold sz
              rw [List.length_append, sched_length, List.length_replicate]
              omega
            have hs0 : (sz l t).set t (wd l t 0) = sz l t := by
              rw [wd_zero]
              have := sz_own l hlt
              obtain ⟨h1, h2⟩ := List.getElem?_eq_some_iff.1 this
              rw [← h2]
              exact List.set_getElem_self h1
            rw [← hs0] at HW
            have HT := Lib.hid htg
            have H16 := Lib.hid h16
            clear hs0 htg hlt
            go_wp2_with fail
            go_loopg [8] 4 (fun g v wr => ∃ i : Nat, i + g = 4 ∧ v = .int .i64 i ∧ Hid (Ws G 90 wr ((sz l t).set t (wd l t i))) ∧ Hid (Ws (N + 1) 93 wr (stw X)) ∧ Hid (Out (N + 1) (N + 2) w2 wr))
            case atStart => exact ⟨0, by omega, rfl, HW, HH, HU⟩
            case round =>
              clear HW HH HU
              obtain ⟨i, hig, rfl, HW, HH, HU⟩ := hrel
              have HI := Lib.hid hig
              by_cases hi : i < 4
              · have h16 := H16.out
                have hp := HP.out
                obtain ⟨x, hx⟩ : ∃ x, l[4 * t + i]? = some x := ⟨_, List.getElem?_eq_getElem (by omega)⟩
                obtain ⟨e, he⟩ : ∃ e, e = p + (4 * t + i) := ⟨_, rfl⟩
                have cm1 : wr.drew.cell? ⟨gB, oB + e, none⟩ = some (.int .u8 (x.toNat : Int)) := by rw [he]; exact HCB.out wr HU.out _ _ hx
                have hgb := HGB.out wr HU.out
                have HWS := Lib.hid (wd_succ l t hx)
                have hwl := wd_lt l t i
                have hx8 := UInt8.toNat_lt x
                have hwl4 : wd l t i < 16777216 := by
                  have : (256 : Nat) ^ i ≤ 256 ^ 3 := Nat.pow_le_pow_right (by decide) (by omega)
                  omega
                have hat : ((sz l t).set t (wd l t i))[t]? = some (wd l t i) := by rw [List.getElem?_set_self (by rw [hsl]; omega)]
                have cw := HW.out.drew.cell hat
                have fw := HW.out.drew.free t
                have hss : ((sz l t).set t (wd l t i)).set t (wd l t (i + 1)) = (sz l t).set t (wd l t (i + 1)) := List.set_set ..
                have HPW := Lib.hid (show Ws G 90 (wr.setCell ⟨G, t, none⟩ (w32 (wd l t (i + 1)))).drew ((sz l t).set t (wd l t (i + 1))) by
                  have := HW.out.put t (wd l t (i + 1))
                  rw [hss] at this
                  exact this.drew)
                have nNG : ¬ N + 1 = G := by have := HGW.out; have := HZ.out; omega
                have HPH := Lib.hid (fun (v : Value) => show Ws (N + 1) 93 (wr.setCell ⟨G, t, none⟩ v).drew (stw X) from (Below.heap_setCell _ _ _ _ (by simp only; exact nNG)).trans HH.out)
                have HPU := Lib.hid (fun (v : Value) => (Out.high HU.out (q := ⟨G, t, none⟩) HGW.out v).drew)
                have q0 : IntKind.i64.wrap (4 * (t : Int)) = 4 * (t : Int) := IntWalk.i64_in _ ⟨by omega, by omega⟩
                have q1 : IntKind.i64.wrap ((p : Int) + 4 * (t : Int)) = (p : Int) + 4 * (t : Int) := IntWalk.i64_in _ ⟨by omega, by omega⟩
                have q2 : IntKind.i64.wrap ((p : Int) + 4 * (t : Int) + (i : Int)) = (e : Int) := (IntWalk.i64_in _ ⟨by omega, by omega⟩).trans (by omega)
                have y0 : (0 : Int) ≤ (e : Int) := by omega
                have y1 : (e : Int) < (m.length : Int) := by omega
                have y2 : (0 : Int) ≤ (t : Int) := by omega
                have y3 : (i : Int) < 4 := by omega
                have HV := Lib.hid (show (wd l t i : Int) * 256 + (x.toNat : Int) = ((wd l t (i + 1) : Nat) : Int) by rw [HWS.out]; omega)
                clear hx he hat hss hig h16 hp hwl hi
                generalize wd l t i = wv at *
                go_wp2_with fail
                refine region_tail 19 (by kernel_rfl) ?_
                simp only [List.take_succ_cons, List.take_zero, List.drop_succ_cons, List.drop_zero]
                repeat still_step
                refine wpStill_nil ?_
                go_wp2_with fail
                rw [HV.out]
                go_roundg (4 - (i + 1))
                case measure => have := HI.out; omega
                case rel => exact ⟨i + 1, by have := HI.out; omega, by go_num, HPW.out, HPH.out _, HPU.out _⟩
              · obtain rfl : i = 4 := by omega
                have HE := Lib.hid (show (sz l t).set t (wd l t 4) = sz l (t + 1) by
                  rw [wd_all l (by have := H16.out; omega), ← sz_set l (by have := H16.out; omega)]
                  unfold next
                  rw [if_pos H16.out])
                rw [HE.out] at HW
                clear HE hi hig
                go_wp2_with fail
                exact HK2.out _ _ (Handed.intro (g2 - 1) (by have := HT.out; have := H16.out; omega) (HJ2.out _ _ _ ⟨_, _, rfl, rfl, rfl, rfl, rfl, rfl, rfl, _, rfl, rfl, t + 1, by have := HT.out; have := H16.out; omega, by go_num, HW, HH, HU⟩))
              -- T16]
          · -- [T64
            have z0 : (t : Int) < 64 := by omega
            have z1 : ¬ (t : Int) < 16 := by omega
            have HT := Lib.hid htg
            clear htg
            obtain ⟨wr, hwr⟩ : ∃ wr, wr = W3 := ⟨_, rfl⟩
            subst hwr
            obtain ⟨j16, e16⟩ : ∃ j, j + 16 = t := ⟨t - 16, by omega⟩
            obtain ⟨j15, e15⟩ : ∃ j, j + 15 = t := ⟨t - 15, by omega⟩
            obtain ⟨j7, e7⟩ : ∃ j, j + 7 = t := ⟨t - 7, by omega⟩
            obtain ⟨j2, e2⟩ : ∃ j, j + 2 = t := ⟨t - 2, by omega⟩
            have hcell := fun (j : Nat) (hj : j < t) => HW.out.drew.cell (sz_at l (j := j) (t := t) hj)
            have a16 := hcell j16 (by omega)
            have a15 := hcell j15 (by omega)
            have a7 := hcell j7 (by omega)
            have a2 := hcell j2 (by omega)
            have gd : ∀ j, j < t → (sched l t).getD j 0 = next l (sched l j) j := fun j hj => by rw [List.getD_eq_getElem?_getD, sched_at l hj]; rfl
            have HX := Lib.hid (show next l (sched l t) t = (((next l (sched l j16) j16 + s0 (next l (sched l j15) j15)) % M + next l (sched l j7) j7) % M + s1 (next l (sched l j2) j2)) % M by
              conv => lhs; unfold next
              rw [if_neg (by omega), show t - 16 = j16 by omega, show t - 15 = j15 by omega, show t - 7 = j7 by omega, show t - 2 = j2 by omega, gd _ (by omega), gd _ (by omega), gd _ (by omega), gd _ (by omega)])
            have l16 := next_lt l (sched l j16) j16
            have l15 := next_lt l (sched l j15) j15
            have l7 := next_lt l (sched l j7) j7
            have l2 := next_lt l (sched l j2) j2
            generalize next l (sched l j16) j16 = x16 at *
            generalize next l (sched l j15) j15 = x15 at *
            generalize next l (sched l j7) j7 = x7 at *
            generalize next l (sched l j2) j2 = x2 at *
            have cw := HW.out.drew.cell (sz_own l (t := t) (by omega))
            have fw := HW.out.drew.free t
            clear hcell gd
            have q16 : IntKind.i64.wrap ((t : Int) - 16) = (j16 : Int) := (IntWalk.i64_in _ ⟨by omega, by omega⟩).trans (by omega)
            have q15 : IntKind.i64.wrap ((t : Int) - 15) = (j15 : Int) := (IntWalk.i64_in _ ⟨by omega, by omega⟩).trans (by omega)
            have q7 : IntKind.i64.wrap ((t : Int) - 7) = (j7 : Int) := (IntWalk.i64_in _ ⟨by omega, by omega⟩).trans (by omega)
            have q2 : IntKind.i64.wrap ((t : Int) - 2) = (j2 : Int) := (IntWalk.i64_in _ ⟨by omega, by omega⟩).trans (by omega)
            have r16 : (j16 : Int) < 64 := by omega
            have r15 : (j15 : Int) < 64 := by omega
            have r7 : (j7 : Int) < 64 := by omega
            have r2 : (j2 : Int) < 64 := by omega
            have p16 : (0 : Int) ≤ (j16 : Int) := by omega
            have p15 : (0 : Int) ≤ (j15 : Int) := by omega
            have p7 : (0 : Int) ≤ (j7 : Int) := by omega
            have p2 : (0 : Int) ≤ (j2 : Int) := by omega
            have E16 := Lib.hid e16
            have E15 := Lib.hid e15
            have E7 := Lib.hid e7
            have E2 := Lib.hid e2
            clear e16 e15 e7 e2
            have y0 : (0 : Int) ≤ (t : Int) := by omega
            have y1 : (t : Int) < 64 := by omega
            go_wp2_with fail
            go_region_held3 (fun W => W.cell? ⟨G, j15, none⟩ = some (w32 x15) ∧ W.cell? ⟨G, j2, none⟩ = some (w32 x2))
              (first | exact ⟨a15, a2⟩)
              (fail)
            have a16' : wr.drew.drew.cell? ⟨G, j16, none⟩ = some (w32 x16) := a16
            have a7' : wr.drew.drew.cell? ⟨G, j7, none⟩ = some (w32 x7) := a7
            have cw' : wr.drew.drew.cell? ⟨G, t, none⟩ = some (w32 0) := cw
            have fw' : wr.drew.drew.frozen? ⟨G, t, none⟩ = false := fw
            have hk : ∀ (v : Value) (j : Nat), j ≠ t → (wr.setCell ⟨G, t, none⟩ v).drew.drew.cell? ⟨G, j, none⟩ = wr.drew.drew.cell? ⟨G, j, none⟩ := fun v j hj => World.cell?_setCell_other wr ⟨_, t, none⟩ ⟨_, j, none⟩ v (fun h => hj (Addr.mk.inj h).2.1.symm)
            have n16 : j16 ≠ t := by have := E16.out; omega
            have n7 : j7 ≠ t := by have := E7.out; omega
            have w15 : IntKind.u32.wrap ((x15 : Int) / 8) = (x15 : Int) / 8 := by rw [IntKind.wrap_u32']; have : x15 < 4294967296 := l15; omega
            have w2' : IntKind.u32.wrap ((x2 : Int) / 1024) = (x2 : Int) / 1024 := by rw [IntKind.wrap_u32']; have : x2 < 4294967296 := l2; omega
            have HV := Lib.hid (ShaB.step x16 x15 x7 x2 l15 l2)
            rw [← HX.out] at HV
            have HPW := Lib.hid (show Ws G 90 (wr.setCell ⟨G, t, none⟩ (w32 (next l (sched l t) t))).drew.drew (sz l (t + 1)) by
              have := HW.out.put t (next l (sched l t) t)
              rw [sz_set l (by omega)] at this
              exact this.drew.drew)
            have nNG : ¬ N + 1 = G := by have := HGW.out; have := HZ.out; omega
            have HPH := Lib.hid (fun (v : Value) => show Ws (N + 1) 93 (wr.setCell ⟨G, t, none⟩ v).drew.drew (stw X) from (Below.heap_setCell _ _ _ _ (by simp only; exact nNG)).trans HH.out)
            have HPU := Lib.hid (fun (v : Value) => (Out.high HU.out (q := ⟨G, t, none⟩) HGW.out v).drew.drew)
            go_wp2_with fail
            go_region_held3 (fun W => W.cell? ⟨G, j16, none⟩ = some (w32 x16) ∧ W.cell? ⟨G, j7, none⟩ = some (w32 x7))
              (first | exact ⟨a16', a7'⟩ | exact ⟨(hk _ _ n16).trans a16', (hk _ _ n7).trans a7'⟩)
              (first | (go_at_call 49; refine (rrotI _ _ _ (by assumption) (by decide) (by decide)).mono ?_; rintro e w' ⟨rfl, rfl⟩))
            all_goals
              rw [HV.out]
              go_wp2_with fail
              exact HK2.out _ _ (Handed.intro (g2 - 1) (by have := HT.out; omega) (HJ2.out _ _ _ ⟨_, _, rfl, rfl, rfl, rfl, rfl, rfl, rfl, _, rfl, rfl, t + 1, by have := HT.out; omega, by go_num, HPW.out, HPH.out _, HPU.out _⟩))
            -- T64]
        · obtain rfl : t = 64 := by omega
          clear htg HG2 hlt
          rw [show sz l 64 = sched l 64 by unfold sz; exact List.append_nil _] at HW
          have HDG := Lib.hid (show digest X l = add X (rounds X (sched l 64) 64) from rfl)
          have hsl : (sched l 64).length = 64 := sched_length l 64
          have hsx := sched_lt l 64
          obtain ⟨SL, hSL⟩ : ∃ SL, SL = sched l 64 := ⟨_, rfl⟩
          rw [← hSL] at HW HDG hsl hsx
          clear hSL hll
          have hu8 : Tryz.prog.underlying 93 = some (.array 8 90) := by kernel_rfl
          have hi8 : (Tryz.prog.info? 93).map (·.size) = some 8 := by kernel_rfl
          obtain ⟨CX, hCX⟩ : ∃ CX, CX = wcells (stw X) := ⟨_, rfl⟩
          have hs8 : CX.size = 8 := by rw [hCX]; rfl
          have ho8 : CX.all (·.oneCell') = true := by rw [hCX]; exact wcells_one _
          have HX3 : Hid (W3.heap[N + 1]? = some (.cells CX 93 (0, 0))) := by rw [hCX]; exact HH.out
          have hiC : (Tryz.prog.info? 93).map (·.size) = some CX.size := hi8.trans (congrArg some hs8.symm)
          have HCX := Lib.hid hCX; clear hCX
          obtain ⟨B, hB⟩ : ∃ B, W3.heap.size = B := ⟨_, rfl⟩
          go_upto_region 18 with (first
            | (guard_target =~ wpList _ _ _ ({ dst := _, op := Op.load 93 _, type := _, pos := _, after := _, guard := none } :: _) _ _; refine wpList_load_row rfl 93 _ rfl _ rfl _ _ _ _ HX3.out hu8 rfl hiC ?_)
            | (guard_target =~ wpList _ _ _ ({ dst := _, op := Op.store 93 _ _, type := _, pos := _, after := _, guard := none } :: _) _ _; refine wpList_store_row rfl 93 _ _ rfl _ _ rfl rfl _ _ (alloc_at hB _) hiC hs8.symm ho8 ?_; refine lay1 hB ?_; intro w5 z5 hS5 hB5))
          have hGB : w2.heap.size ≤ B := by rw [← hB]; exact HU.out.size
          have hb5 : Below W3.heap.size W3 w5 := by rw [hB]; exact hB5
          have HW5 := Lib.hid (HW.out.below hb5)
          have HH5 := Lib.hid (HH.out.below hb5)
          have HU5 := Lib.hid (show Out (N + 1) (N + 2) w2 w5 from HU.out.trans (hi' := 0) (Out.of_below hb5) (.inl (Nat.zero_le _)))
          have HS5 : Hid (Ws B 93 w5 (stw (rounds X SL 0))) := by rw [HCX.out] at hS5; exact hS5
          have HGB := Lib.hid hGB
          have HGN : Hid (G < B) := by rw [← hB]; exact HW.out.lt
          clear hS5 hB5 hb5 hGB hB z5 HW HH HU HX3 HCX
          go_wp2_with fail
          refine wp_loop_ghost_k (fun g A W => FrC (.pointer (some ⟨N, 0, none⟩)) (.pointer (some ⟨N + 1, 0, none⟩)) (.slice (some ⟨gB, oB, none⟩) m.length cm) (.int .i64 (p : Int)) (.slice (some ⟨G, 0, none⟩) 64 64) (.pointer (some ⟨B, 0, none⟩)) (fun v dl => dl = [] ∧ ∃ t : Nat, t + g = 64 ∧ v = .int .i64 (t : Int) ∧ Hid (Ws B 93 W (stw (rounds X SL t))) ∧ Hid (Ws G 90 W SL) ∧ Hid (Ws (N + 1) 93 W (stw X)) ∧ Hid (Out (N + 1) (N + 2) w2 W)) A) 64 ?start ?round
          case start => exact ⟨_, _, rfl, rfl, rfl, rfl, rfl, rfl, rfl, rfl, _, rfl, rfl, 0, Nat.zero_add _, rfl, HS5, HW5, HH5, HU5⟩
          case round =>
            clear HS5 HW5 HH5 HU5
            intro g4 A4 W4 hI J4 K4 hJ4 hK4
            have HJ4 := Lib.hid hJ4
            have HK4 := Lib.hid hK4
            clear hJ4 hK4
            refine unpackC (P := fun A => Code.wp _ _ _ A W4) hI ?_
            intros
            rename_i hrel
            clear hI
            obtain ⟨rfl, t, htg, rfl, HS, HW, HH, HU⟩ := hrel
            have HT := Lib.hid htg
            by_cases hlt : t < 64
            · have hokY : (rounds X SL t).ok := rounds_ok hok t
              have HRS := Lib.hid (show rounds X SL (t + 1) = Sha.round (rounds X SL t) (Sha.K.getD t 0) (SL.getD t 0) from rfl)
              obtain ⟨Y, hY⟩ : ∃ Y, Y = rounds X SL t := ⟨_, rfl⟩
              rw [← hY] at HS HRS hokY
              clear hY
              have a0 := HS.out.cell (j := 0) (x := Y.a) rfl
              have a1 := HS.out.cell (j := 1) (x := Y.b) rfl
              have a2 := HS.out.cell (j := 2) (x := Y.c) rfl
              have a4 := HS.out.cell (j := 4) (x := Y.e) rfl
              have a5 := HS.out.cell (j := 5) (x := Y.f) rfl
              have a6 := HS.out.cell (j := 6) (x := Y.g) rfl
              have a7 := HS.out.cell (j := 7) (x := Y.h) rfl
              have z0 : (t : Int) < 64 := by omega
              clear htg
              go_upto_region 23 with fail
              rw [ch_eq2 _ _ _ hokY.2.2.2.2.1 hokY.2.2.2.2.2.1 hokY.2.2.2.2.2.2.1, maj_eq _ _ _ hokY.1 hokY.2.1 hokY.2.2.1]
              obtain ⟨kk, hkk⟩ : ∃ kk, kk = Sha.K.getD t 0 := ⟨_, rfl⟩
              obtain ⟨lw, hlw⟩ : ∃ lw, lw = SL.getD t 0 := ⟨_, rfl⟩
              have aw : W4.cell? ⟨G, t, none⟩ = some (w32 lw) := HW.out.cell (by rw [hlw, List.getD_eq_getElem?_getD, List.getElem?_eq_getElem (show t < SL.length by omega)]; rfl)
              have KK := Lib.hid (show ∀ W : World, (((W.cell? ⟨B, 4, none⟩ = some (w32 Y.e) ∧ W.cell? ⟨B, 7, none⟩ = some (w32 Y.h)) ∧ W.cell? ⟨G, t, none⟩ = some (w32 lw)) ∧ Below W4.heap.size W4 W) → Calls Tryz.prog 50 #[.int .i64 (t : Int)] W fun e w' => e = .returned (w32 kk) ∧ (((w'.cell? ⟨B, 4, none⟩ = some (w32 Y.e) ∧ w'.cell? ⟨B, 7, none⟩ = some (w32 Y.h)) ∧ w'.cell? ⟨G, t, none⟩ = some (w32 lw)) ∧ Below W4.heap.size W4 w') from fun W hW => by
                refine (RsA.k t hlt W).mono ?_
                rintro e w' ⟨rfl, hb⟩
                exact ⟨by rw [hkk], ⟨⟨(hb.cell (World.block_lt_of_cell? W _ hW.1.1.1)).trans hW.1.1.1, (hb.cell (World.block_lt_of_cell? W _ hW.1.1.2)).trans hW.1.1.2⟩, (hb.cell (World.block_lt_of_cell? W _ hW.1.2)).trans hW.1.2⟩, hW.2.trans (hb.mono hW.2.size)⟩)
              rw [← hkk, ← hlw] at HRS
              have hY4 : Y.e < 4294967296 := hokY.2.2.2.2.1
              have hYa : Y.a < 4294967296 := hokY.1
              have y0 : (0 : Int) ≤ (t : Int) := by omega
              clear hkk hlw hlt
              go_region_held3 (fun W => ((W.cell? ⟨B, 4, none⟩ = some (w32 Y.e) ∧ W.cell? ⟨B, 7, none⟩ = some (w32 Y.h)) ∧ W.cell? ⟨G, t, none⟩ = some (w32 lw)) ∧ Below W4.heap.size W4 W)
                (first | exact ⟨⟨⟨a4, a7⟩, aw⟩, (Below.refl _ _).drew⟩ | assumption)
                (first
                  | (go_at_call 49; refine (rrotI _ _ _ (by assumption) (by decide) (by decide)).mono ?_; rintro e w' ⟨rfl, rfl⟩)
                  | (go_at_call 50; refine (KK.out _ (by assumption)).mono ?_; rintro e w6 ⟨rfl, hS6⟩))
              go_wp2_with fail
              rw [t1_eq3 hokY]
              obtain ⟨T1, hT1⟩ : ∃ T1, T1 = t1 Y kk lw := ⟨_, rfl⟩
              rw [← hT1]
              have hb6 := hS6.2
              have HS6 := Lib.hid (HS.out.below hb6)
              have HW6 := Lib.hid (HW.out.below hb6)
              have HH6 := Lib.hid (HH.out.below hb6)
              have HU6 := Lib.hid (show Out (N + 1) (N + 2) w2 w6 from HU.out.trans (hi' := 0) (Out.of_below hb6) (.inl (Nat.zero_le _)))
              have HT1 := Lib.hid hT1
              clear hT1 hS6 hb6 a0 a1 a2 a4 a5 a6 a7 aw KK HS HW HH HU
              have a0 := HS6.out.cell (j := 0) (x := Y.a) rfl
              go_quiet (first | (go_at_call 49; exact rrotQ _ _ _ _ (by assumption) (by decide) (by decide)))
              rw [t2_eq4 hokY]
              obtain ⟨T2, hT2⟩ : ∃ T2, T2 = t2 Y := ⟨_, rfl⟩
              rw [← hT2]
              have HT2 := Lib.hid hT2
              obtain ⟨w7, hw7⟩ : ∃ w7, w7 = w6.drewN nq := ⟨_, rfl⟩
              rw [← hw7]
              have HS7 := Lib.hid (show Ws B 93 w7 (sh Y 7) by rw [hw7]; exact HS6.out)
              have HW7 := Lib.hid (show Ws G 90 w7 SL by rw [hw7]; exact HW6.out)
              have HH7 := Lib.hid (show Ws (N + 1) 93 w7 (stw X) by rw [hw7]; exact HH6.out)
              have HU7 := Lib.hid (show Out (N + 1) (N + 2) w2 w7 by rw [hw7]; exact HU6.out.trans (hi' := 0) (Out.of_below (below_drewN (Below.refl _ _) nq)) (.inl (Nat.zero_le _)))
              clear hT2 hw7 a0 HS6 HW6 HH6 HU6
              go_wp2_with fail
              go_loopg [17] 7 (fun g v wr => v = .int .i64 (g : Int) ∧ g ≤ 7 ∧ Hid (Ws B 93 wr (sh Y g)) ∧ Hid (Ws G 90 wr SL) ∧ Hid (Ws (N + 1) 93 wr (stw X)) ∧ Hid (Out (N + 1) (N + 2) w2 wr))
              case atStart => exact ⟨rfl, Nat.le_refl _, HS7, HW7, HH7, HU7⟩
              case round =>
                clear HS7 HW7 HH7 HU7
                obtain ⟨rfl, hg7, HS, HW, HH, HU⟩ := hrel
                have HGN2 := HGN.out
                have nNB : ¬ N + 1 = B := by have := HGB.out; have := HZ.out; omega
                have nGB : ¬ G = B := by omega
                by_cases hg0 : gk = 0
                · subst hg0
                  clear hg7
                  have c4 := HS.out.cell (j := 4) (x := Y.d) rfl
                  have c0 := HS.out.cell (j := 0) (x := Y.a) rfl
                  have f4 := HS.out.free 4
                  have f0 := HS.out.free 0
                  have HD := Lib.hid (ShaB.wrap_add Y.d T1)
                  have HD2 := Lib.hid (ShaB.wrap_add T1 T2)
                  have HPS := Lib.hid (show Ws B 93 ((wr.setCell ⟨B, 4, none⟩ (w32 ((Y.d + T1) % M))).setCell ⟨B, 0, none⟩ (w32 ((T1 + T2) % M))) (stw (rounds X SL (t + 1))) by
                    have := (HS.out.put 4 ((Y.d + T1) % M)).put 0 ((T1 + T2) % M)
                    rw [HRS.out, ← sh_round, ← HT1.out, ← HT2.out]
                    exact this)
                  have HPW := Lib.hid (fun (v u : Value) => show Ws G 90 ((wr.setCell ⟨B, 4, none⟩ v).setCell ⟨B, 0, none⟩ u) SL from (Below.heap_setCell _ _ _ _ (by simp only; exact nGB)).trans ((Below.heap_setCell _ _ _ _ (by simp only; exact nGB)).trans HW.out))
                  have HPH := Lib.hid (fun (v u : Value) => show Ws (N + 1) 93 ((wr.setCell ⟨B, 4, none⟩ v).setCell ⟨B, 0, none⟩ u) (stw X) from (Below.heap_setCell _ _ _ _ (by simp only; exact nNB)).trans ((Below.heap_setCell _ _ _ _ (by simp only; exact nNB)).trans HH.out))
                  have HPU := Lib.hid (fun (v u : Value) => (Out.high (Out.high HU.out (q := ⟨B, 4, none⟩) HGB.out v) (q := ⟨B, 0, none⟩) HGB.out u))
                  clear HS HW HH HU HGN2
                  go_wp2_with fail
                  rw [show ((Y.d : Int) + (T1 : Int)) % 4294967296 = (((Y.d + T1) % M : Nat) : Int) by unfold M; omega, show ((T1 : Int) + (T2 : Int)) % 4294967296 = (((T1 + T2) % M : Nat) : Int) by unfold M; omega]
                  exact HK4.out _ _ (Handed.intro (g4 - 1) (by have := HT.out; omega) (HJ4.out _ _ _ ⟨_, _, rfl, rfl, rfl, rfl, rfl, rfl, rfl, rfl, _, rfl, rfl, t + 1, by have := HT.out; omega, by go_num, HPS.out, HPW.out _ _, HPH.out _ _, HPU.out _ _⟩))
                · obtain ⟨i, rfl⟩ : ∃ i, gk = i + 1 := ⟨gk - 1, by omega⟩
                  have hi7 : i < 7 := by omega
                  have c0 := HS.out.cell (sh_get Y hi7)
                  obtain ⟨v1, hv1⟩ : ∃ v1, (sh Y (i + 1))[i + 1]? = some v1 := ⟨_, List.getElem?_eq_getElem (by rw [sh_len]; omega)⟩
                  have c1 := HS.out.cell hv1
                  have f1 := HS.out.free (i + 1)
                  have HPS := Lib.hid (show Ws B 93 (wr.setCell ⟨B, i + 1, none⟩ (w32 ((stw Y).getD i 0))) (sh Y i) by
                    have := HS.out.put (i + 1) ((stw Y).getD i 0)
                    rw [sh_set Y hi7] at this
                    exact this)
                  have HPW := Lib.hid (fun (v : Value) => show Ws G 90 (wr.setCell ⟨B, i + 1, none⟩ v) SL from (Below.heap_setCell _ _ _ _ (by simp only; exact nGB)).trans HW.out)
                  have HPH := Lib.hid (fun (v : Value) => show Ws (N + 1) 93 (wr.setCell ⟨B, i + 1, none⟩ v) (stw X) from (Below.heap_setCell _ _ _ _ (by simp only; exact nNB)).trans HH.out)
                  have HPU := Lib.hid (fun (v : Value) => (Out.high HU.out (q := ⟨B, i + 1, none⟩) HGB.out v))
                  have y0 : (0 : Int) < ((i + 1 : Nat) : Int) := by omega
                  have y1 : ((i + 1 : Nat) : Int) < 8 := by omega
                  have y2 : (0 : Int) ≤ (i : Int) := by omega
                  have y3 : (i : Int) < 8 := by omega
                  generalize (stw Y).getD i 0 = yv at *
                  clear hv1 hg0
                  go_wp2_with fail
                  go_roundg i
                  case measure => omega
                  case rel => exact ⟨rfl, by omega, HPS.out, HPW.out _, HPH.out _, HPU.out _⟩
            · -- [L6
              obtain rfl : t = 64 := by omega
              obtain ⟨R, hR⟩ : ∃ R, R = rounds X SL 64 := ⟨_, rfl⟩
              rw [← hR] at HS HDG
              have HNB := Lib.hid (show ¬ B = N + 1 by have := HGB.out; have := HZ.out; omega)
              clear hR htg hlt HT
              rw [← mix2_zero X R] at HH
              go_wp2_with fail
              go_loopg [192] 8 (fun g v wr => ∃ i : Nat, i + g = 8 ∧ v = .int .i64 i ∧ Hid (Ws (N + 1) 93 wr (mix2 X R i)) ∧ Hid (Ws B 93 wr (stw R)) ∧ Hid (Out (N + 1) (N + 2) w2 wr))
              case atStart => exact ⟨0, by omega, rfl, HH, HS, HU⟩
              case round =>
                clear HH HS HU HW
                obtain ⟨i, hig, rfl, HH, HS, HU⟩ := hrel
                have HI := Lib.hid hig
                by_cases hi : i < 8
                · have ca := HH.out.drew.cell (mix2_get X R hi)
                  have cs := HS.out.drew.cell (j := i) (x := (stw R).getD i 0) (by rw [List.getD_eq_getElem?_getD, List.getElem?_eq_getElem (show i < (stw R).length from hi)]; rfl)
                  have fa := HH.out.drew.free i
                  have hag : (stw (add X R)).getD i 0 = ((stw X).getD i 0 + (stw R).getD i 0) % M := by
                    rw [ShaD.add_get X R hi, Nat.add_comm]
                  have HV := Lib.hid ((ShaB.wrap_add ((stw X).getD i 0) ((stw R).getD i 0)).trans (congrArg (fun x : Nat => (x : Int)) hag.symm))
                  have HPH := Lib.hid (show Ws (N + 1) 93 (wr.setCell ⟨N + 1, i, none⟩ (w32 ((stw (add X R)).getD i 0))).drew (mix2 X R (i + 1)) by
                    have := HH.out.put i ((stw (add X R)).getD i 0)
                    rw [mix2_set X R hi] at this
                    exact this.drew)
                  have HPS := Lib.hid (fun (v : Value) => show Ws B 93 (wr.setCell ⟨N + 1, i, none⟩ v).drew (stw R) from (Below.heap_setCell _ _ _ _ (by simp only; exact HNB.out)).trans HS.out)
                  have HPU := Lib.hid (fun (v : Value) => (HU.out.setCell (q := ⟨N + 1, i, none⟩) rfl (by omega) v).drew)
                  have y0 : (0 : Int) ≤ (i : Int) := by omega
                  have y1 : (i : Int) < 8 := by omega
                  clear hag hig hi
                  generalize (stw X).getD i 0 = xa at *
                  generalize (stw R).getD i 0 = xr at *
                  generalize (stw (add X R)).getD i 0 = xv at *
                  go_wp2_with fail
                  refine region_tail 8 (by kernel_rfl) ?_
                  simp only [List.take_succ_cons, List.take_zero, List.drop_succ_cons, List.drop_zero]
                  repeat still_step
                  refine wpStill_nil ?_
                  go_wp2_with fail
                  rw [← IntKind.wrap_u32', HV.out]
                  go_roundg (8 - (i + 1))
                  case measure => have := HI.out; omega
                  case rel => exact ⟨i + 1, by have := HI.out; omega, by go_num, HPH.out, HPS.out _, HPU.out _⟩
                · obtain rfl : i = 8 := by omega
                  rw [mix2_all, ← HDG.out, ← HNX.out] at HH
                  have hp1 : IntKind.i64.wrap ((p : Int) + 64) = ((p + 64 : Nat) : Int) := (IntWalk.i64_in _ ⟨by omega, by omega⟩).trans (by omega)
                  clear hi hig HI
                  go_wp2_with fail
                  exact HK.out _ _ (Handed.intro (g - 1) (by have := HG.out; omega) (HJ.out _ _ _ ⟨_, _, rfl, rfl, rfl, rfl, rfl, _, rfl, rfl, j + 1, p + 64, by have := HG.out; omega, by go_num, by have := HP.out; exact (show p + 64 = 64 * (j + 1) by omega), HH, HU⟩))
              -- L6]
    · -- [OUT
      obtain rfl : j = m.length / 64 := by omega
      have HS := Lib.hid (show Sha.sha b = out (blocks init (m.length / 64) m) by unfold Sha.sha; rw [← Hm.out])
      have hok : (blocks init (m.length / 64) m).ok := blocks_ok _ _ init_ok
      obtain ⟨S, hS⟩ : ∃ S, S = blocks init (m.length / 64) m := ⟨_, rfl⟩
      rw [← hS] at HS HH hok
      clear hS hjg HG hlt
      have hle : ¬ (p : Int) < (m.length : Int) := by have := HP.out; omega
      clear HP
      go_upto_region 37 with fail
      have hG1 := heap_alloc_new W (.cells #[.int .u8 0, .int .u8 0, .int .u8 0, .int .u8 0, .int .u8 0, .int .u8 0, .int .u8 0, .int .u8 0, .int .u8 0, .int .u8 0, .int .u8 0, .int .u8 0, .int .u8 0, .int .u8 0, .int .u8 0, .int .u8 0, .int .u8 0, .int .u8 0, .int .u8 0, .int .u8 0, .int .u8 0, .int .u8 0, .int .u8 0, .int .u8 0, .int .u8 0, .int .u8 0, .int .u8 0, .int .u8 0, .int .u8 0, .int .u8 0, .int .u8 0, .int .u8 0] 63)
      have hU1 := Out.alloc HU.out (.cells #[.int .u8 0, .int .u8 0, .int .u8 0, .int .u8 0, .int .u8 0, .int .u8 0, .int .u8 0, .int .u8 0, .int .u8 0, .int .u8 0, .int .u8 0, .int .u8 0, .int .u8 0, .int .u8 0, .int .u8 0, .int .u8 0, .int .u8 0, .int .u8 0, .int .u8 0, .int .u8 0, .int .u8 0, .int .u8 0, .int .u8 0, .int .u8 0, .int .u8 0, .int .u8 0, .int .u8 0, .int .u8 0, .int .u8 0, .int .u8 0, .int .u8 0, .int .u8 0] 63)
      have hH1 := HH.out.below ((Below.refl W.heap.size W).alloc (Nat.le_refl _) (.cells #[.int .u8 0, .int .u8 0, .int .u8 0, .int .u8 0, .int .u8 0, .int .u8 0, .int .u8 0, .int .u8 0, .int .u8 0, .int .u8 0, .int .u8 0, .int .u8 0, .int .u8 0, .int .u8 0, .int .u8 0, .int .u8 0, .int .u8 0, .int .u8 0, .int .u8 0, .int .u8 0, .int .u8 0, .int .u8 0, .int .u8 0, .int .u8 0, .int .u8 0, .int .u8 0, .int .u8 0, .int .u8 0, .int .u8 0, .int .u8 0, .int .u8 0, .int .u8 0] 63))
      have hG2 := HU.out.size
      generalize W.alloc _ = W1 at *
      obtain ⟨G, hG⟩ : ∃ G, G = W.heap.size := ⟨_, rfl⟩
      rw [← hG] at hG1 hG2 ⊢
      have HGW := Lib.hid (show w2.heap.size ≤ G from hG2)
      have HG1 : Hid (W1.heap[G]? = some (.cells (bcells (ot (out S) 0)) 63 (0, 0))) := hG1
      have HH1 := Lib.hid hH1
      have HU1 := Lib.hid hU1
      have hso := out_length S
      have hat := out_at S
      have HAT := Lib.hid hat
      have HOT := Lib.hid (fun i => @ot_set (out S) i)
      clear hG hG1 hG2 hH1 hU1 hat HH HU
      go_wp2_with fail
      go_loopg [204] 32 (fun g v wr => ∃ i : Nat, i + g = 32 ∧ v = .int .i64 i ∧ Hid (wr.heap[G]? = some (.cells (bcells (ot (out S) i)) 63 (0, 0))) ∧ Hid (Ws (N + 1) 93 wr (stw S)) ∧ Hid (Out (N + 1) (N + 2) w2 wr))
      case atStart => exact ⟨0, by omega, rfl, HG1, HH1, HU1⟩
      case round =>
        clear HG1 HH1 HU1
        obtain ⟨i, hig, rfl, HGb, HHb, HUb⟩ := hrel
        have HG := Lib.hid hig
        by_cases hlt : i < 32
        · obtain ⟨q, r, hqr, hr, hq⟩ : ∃ q r, i = 4 * q + r ∧ r < 4 ∧ q < 8 := ⟨i / 4, i % 4, by omega, by omega, by omega⟩
          have hxi := HAT.out i hlt
          rw [show i / 4 = q by omega, show i % 4 = r by omega] at hxi
          obtain ⟨x, hx⟩ : ∃ x, (stw S)[q]? = some x := ⟨_, List.getElem?_eq_getElem (show q < (stw S).length from hq)⟩
          have hgx : (stw S).getD q 0 = x := by rw [List.getD_eq_getElem?_getD, hx]; rfl
          rw [hgx] at hxi
          have hxl : x < 4294967296 := stw_lt hok hx
          have c1 := HHb.out.cell hx
          obtain ⟨v0, hv0⟩ := ot_at hso hlt
          have cw : wr.cell? ⟨G, i, none⟩ = some v0 := (Lib.cell_of_heap (show wr.heap[G]? = _ from HGb.out) i).trans hv0
          have fw : wr.frozen? ⟨G, i, none⟩ = false := Lib.frozen_of_heap (show wr.heap[G]? = _ from HGb.out) i
          have d1 : Int.tdiv (i : Int) 4 = (q : Int) := by rw [Int.tdiv_eq_ediv_of_nonneg (by omega)]; omega
          have d1' : (i : Int) / 4 = (q : Int) := by omega
          have y0 : (0 : Int) ≤ (i : Int) := by omega
          have y1 : (i : Int) < 32 := by omega
          have y2 : (0 : Int) ≤ (q : Int) := by omega
          have y3 : (q : Int) < 8 := by omega
          have d2 : Int.tmod (i : Int) 4 = (r : Int) := by rw [Int.tmod_eq_emod_of_nonneg (by omega)]; omega
          have d2' : (i : Int) % 4 = (r : Int) := by omega
          have nGN : ¬ G = N + 1 := by have := HGW.out; have := HZ.out; omega
          have nNG : ¬ N + 1 = G := by have := HGW.out; have := HZ.out; omega
          have HI := Lib.hid hqr
          have HPut := Lib.hid (fun (y : UInt8) (hy : (out S)[i]? = some y) => (show (wr.setCell ⟨G, i, none⟩ (.int .u8 (y.toNat : Int))).heap[G]? = some (.cells (bcells (ot (out S) (i + 1))) 63 (0, 0)) from (heap_setCell_same wr G i _ _ _ HGb.out).trans (by rw [HOT.out i hy hlt])))
          have HPH := Lib.hid (fun (v : Value) => show Ws (N + 1) 93 (wr.setCell ⟨G, i, none⟩ v) (stw S) from (Below.heap_setCell _ _ _ _ (by simp only; exact nNG)).trans HHb.out)
          have HPU := Lib.hid (fun (v : Value) => (Out.high HUb.out (q := ⟨G, i, none⟩) HGW.out v))
          clear hqr hig hgx hv0 hx
          have hr4 : r = 0 ∨ r = 1 ∨ r = 2 ∨ r = 3 := by omega
          rcases hr4 with rfl | rfl | rfl | rfl
          · have HX := Lib.hid (show (out S)[i]? = some (UInt8.ofNat (x / 16777216)) from hxi)
            clear hxi
            simp only [Int.cast_ofNat_Int] at d2 d2'
            go_wp2_with fail
            rw [show ((x : Int) / 16777216) = (((UInt8.ofNat (x / 16777216)).toNat : Nat) : Int) by rw [UInt8.toNat_ofNat']; omega]
            go_roundg (32 - (i + 1))
            case measure => have := HG.out; omega
            case rel => exact ⟨i + 1, by omega, by go_num, HPut.out _ HX.out, HPH.out _, HPU.out _⟩
          · have HX := Lib.hid (show (out S)[i]? = some (UInt8.ofNat (x / 65536)) from hxi)
            clear hxi
            simp only [Int.cast_ofNat_Int] at d2 d2'
            go_wp2_with fail
            rw [show ((x : Int) / 65536 % 256) = (((UInt8.ofNat (x / 65536)).toNat : Nat) : Int) by rw [UInt8.toNat_ofNat']; omega]
            go_roundg (32 - (i + 1))
            case measure => have := HG.out; omega
            case rel => exact ⟨i + 1, by omega, by go_num, HPut.out _ HX.out, HPH.out _, HPU.out _⟩
          · have HX := Lib.hid (show (out S)[i]? = some (UInt8.ofNat (x / 256)) from hxi)
            clear hxi
            simp only [Int.cast_ofNat_Int] at d2 d2'
            go_wp2_with fail
            rw [show ((x : Int) / 256 % 256) = (((UInt8.ofNat (x / 256)).toNat : Nat) : Int) by rw [UInt8.toNat_ofNat']; omega]
            go_roundg (32 - (i + 1))
            case measure => have := HG.out; omega
            case rel => exact ⟨i + 1, by omega, by go_num, HPut.out _ HX.out, HPH.out _, HPU.out _⟩
          · have HX := Lib.hid (show (out S)[i]? = some (UInt8.ofNat (x / 1)) from hxi)
            clear hxi
            simp only [Int.cast_ofNat_Int] at d2 d2'
            go_wp2_with fail
            rw [show ((x : Int) % 256) = (((UInt8.ofNat (x / 1)).toNat : Nat) : Int) by rw [UInt8.toNat_ofNat']; omega]
            go_roundg (32 - (i + 1))
            case measure => have := HG.out; omega
            case rel => exact ⟨i + 1, by omega, by go_num, HPut.out _ HX.out, HPH.out _, HPU.out _⟩
        · obtain rfl : i = 32 := by omega
          clear hlt hig HG
          rw [ot_all hso] at HGb
          have hO3 := (HUb.out.block N (by have := HZ.out; omega) (by omega)).trans HO2.out
          have hi32 : (Tryz.prog.info? 63).map (·.size) = some (bcells (out S)).size := by rw [bcells_size]; kernel_rfl
          have hu32 : Tryz.prog.underlying 63 = some (.array 32 5) := by kernel_rfl
          have hos : (bcells (out S)).size = 32 := bcells_size _
          have hone := bcells_one (out S)
          obtain ⟨C, hC⟩ : ∃ C, C = bcells (out S) := ⟨_, rfl⟩
          rw [← hC] at HGb hi32 hos hone
          have HC := Lib.hid hC; clear hC
          go_wp2_with (first
            | (guard_target =~ wpList _ _ _ ({ dst := _, op := Op.load 63 _, type := _, pos := _, after := _, guard := none } :: _) _ _; refine wpList_load_row rfl 63 _ rfl _ rfl _ _ _ _ HGb.out hu32 rfl hi32 ?_)
            | (guard_target =~ wpList _ _ _ ({ dst := _, op := Op.store 63 _ _, type := _, pos := _, after := _, guard := none } :: _) _ _; refine wpList_store_row rfl 63 _ _ rfl _ _ rfl rfl _ _ hO3 hi32 hos.symm hone ?_))
          refine bodyPost_ret (results_cell_row rfl _ _ N 63 _ _ _ rfl (heap_setRow _ hO3) hu32 rfl hi32) rfl ⟨by rw [HS.out, HC.out], ?_⟩
          rw [← HN.out]
          refine below_row (HB2.out.trans (HUb.out.below (by omega) (by have := HZ.out; omega))) (Nat.le_refl _) _
      -- OUT]
end Go.Proofs.YtecnnlppinhmgaaGreatDoor.RsB
