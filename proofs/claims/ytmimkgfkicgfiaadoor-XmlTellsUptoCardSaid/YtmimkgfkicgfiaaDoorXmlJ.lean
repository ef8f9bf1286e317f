/-
  The walk of the law XmlTells.
-/
import Derived.Test.YtmimkgfkicgfiaaDoorXmlI
import Derived.Test.YtmimkgfkicgfiaaDoorXmlTellsPlain
namespace Go.Proofs.YtmimkgfkicgfiaaDoor.XmlJ
open Go.RowKit Go.Proofs.YtmimkgfkicgfiaaDoor

theorem itoa_no60 (n : Int) : ∀ x ∈ Lib.itoa n, x ≠ 60 := by
  intro x hx h
  have := Dec.itoa_byte x hx
  subst h
  revert this
  decide

theorem doc_len {bucket next : List UInt8} {es : List Xp.Ent} (hb : bucket.length ≤ 1048576) (hn : es.length ≤ 1048576) (hf : XmlI.Fits es) (hx : next.length ≤ 1048576) : (Xp.docList Lib.itoa bucket es next).length ≤ 70368744177664 := by
  have h1 := XmlI.parts_len (bucket := bucket) hf
  have h2 := Xp.esc_len bucket
  have h3 := Xp.esc_len next
  have h4 : (if next = [] then ([] : List UInt8) else Xp.tag Xp.tNext (Xp.esc next)).length ≤ 7000000 := by
    split
    · simp
    · simp only [Xp.tag_len, Xp.tNext, List.length_cons, List.length_nil]; omega
  simp only [Xp.docList, Xp.listBody, Xp.tag_len, List.length_append, Xp.top, Xp.tList, Xp.tBucket, List.length_cons, List.length_nil]
  omega

theorem wantF (nm : List UInt8) : ((ByteArray.mk #[60, 75, 101, 121, 62, 60, 78, 97, 109, 101, 62]) ++ ((ByteArray.mk (Xp.esc nm).toArray) ++ (ByteArray.mk #[60, 47, 78, 97, 109, 101, 62]))) = ByteArray.mk (([60, 75, 101, 121, 62, 60, 78, 97, 109, 101, 62] : List UInt8) ++ (Xp.esc nm ++ [60, 47, 78, 97, 109, 101, 62])).toArray := by
  rw [← Com.mk_append, ← Com.mk_append]
theorem wantT (nm : List UInt8) : ((ByteArray.mk #[60, 80, 114, 101, 102, 105, 120, 62, 60, 78, 97, 109, 101, 62]) ++ ((ByteArray.mk (Xp.esc nm).toArray) ++ (ByteArray.mk #[60, 47, 78, 97, 109, 101, 62]))) = ByteArray.mk (([60, 80, 114, 101, 102, 105, 120, 62, 60, 78, 97, 109, 101, 62] : List UInt8) ++ (Xp.esc nm ++ [60, 47, 78, 97, 109, 101, 62])).toArray := by
  rw [← Com.mk_append, ← Com.mk_append]

set_option maxHeartbeats 2000000 in
set_option maxRecDepth 100000 in
theorem tells (next : ByteArray) (a : Option Addr) (c : Nat) (es : List Xp.Ent) (w : World) (hnx : next.size ≤ 1048576) (hlen : es.length ≤ 1048576) (hf : XmlI.Fits es) (ht : XmlH.Tab w) (hs : XmlI.Ents w a es) :
    Calls Tryd.prog 5 #[.agg #[.slice a es.length c, .string next]] w fun e w' => e = .returned (.bool true) ∧ Below w.heap.size w w' := by
  go_enter Tryd.func5, Tryd.ntmps5
  go_wp2_with fail
  refine (XmlC.alive _).mono ?_
  rintro e w1 ⟨rfl, b1⟩
  have hz : w.heap.size < w1.heap.size := by have := b1.size; simp at this; omega
  have p0 : w1.cell? ⟨w.heap.size, 0, none⟩ = some (.slice a es.length c) := (b1.cell (p := ⟨w.heap.size, 0, none⟩) (by simp)).trans (by simp)
  have p1 : w1.cell? ⟨w.heap.size, 1, none⟩ = some (.string next) := (b1.cell (p := ⟨w.heap.size, 1, none⟩) (by simp)).trans (by simp)
  have B1 : Below w.heap.size w w1 := ((Below.refl _ w).alloc (Nat.le_refl _) _).trans (b1.mono (by simp))
  clear b1
  go_wp2_with fail
  go_loopg [3, 24] es.length (fun g z i wr => ∃ (k n : Nat), k + g = es.length ∧ i = .int .i64 k ∧ z = .int .i64 n ∧ n ≤ 1048576 + k * 1048676 ∧
    wr.cell? ⟨w.heap.size, 0, none⟩ = some (.slice a es.length c) ∧ wr.cell? ⟨w.heap.size, 1, none⟩ = some (.string next) ∧ w.heap.size < wr.heap.size ∧ Below w.heap.size w wr)
  case atStart => exact ⟨0, next.size, by omega, rfl, rfl, by omega, p0, p1, hz, B1⟩
  case round =>
    obtain ⟨k, n, hkg, rfl, rfl, hn, q0, q1, hzr, hb⟩ := hrel
    have HG := Lib.hid hkg
    have hkx : k ≤ es.length := by omega
    clear hkg p0 p1
    have hsz := hb.size
    by_cases hlt : k < es.length
    · obtain ⟨e, hek⟩ : ∃ e, es[k]? = some e := ⟨es[k], List.getElem?_eq_getElem hlt⟩
      have hfe := hf e (List.mem_of_getElem? hek)
      have hsr := hs.below hb
      rcases hsr with h | ⟨b, o, rfl, hbb, h3⟩
      · rw [h] at hlt; simp at hlt
      obtain ⟨c0, c1, c2, c3, c4⟩ := h3 k e hek
      clear h3 hek
      obtain ⟨nm, pr, sz, et, tm⟩ := e
      simp only at c0 c1 c2 c3 c4 hfe
      have hnl : (ByteArray.mk nm.toArray).size = nm.length := Com.size_mk nm
      have hnm := hfe.1
      by_cases h100 : 100 < k
      · go_wp2
        go_ret
        exact ⟨rfl, hb.alloc hsz _⟩
      · by_cases h20 : 20000 < n + (100 + nm.length)
        · go_wp2
          go_ret
          exact ⟨rfl, hb.alloc hsz _⟩
        · go_wp2
          go_roundg (gk - 1)
          case measure => have := HG.out; omega
          case rel =>
            exact ⟨k + 1, n + (100 + nm.length), by have := HG.out; omega, by go_num, by go_num, by omega, (World.cell?_alloc_lt _ _ _ hzr).trans q0, (World.cell?_alloc_lt _ _ _ hzr).trans q1, by simp; omega, hb.alloc hsz _⟩
    · by_cases h20 : 20000 < n
      · go_wp2
        go_ret
        exact ⟨rfl, hb⟩
      · have HTab := Lib.hid (ht.below hb)
        have HEnts := Lib.hid (hs.below hb)
        go_wp2_with fail
        refine (XmlI.list _ next a c es _ (by simp [Com.size_mk]) hnx hlen hf HTab.out HEnts.out).mono ?_
        rintro e w2 ⟨rfl, b2⟩
        have B2 := hb.trans (b2.mono hsz)
        have r0 := (b2.cell (p := ⟨w.heap.size, 0, none⟩) hzr).trans q0
        have r1 := (b2.cell (p := ⟨w.heap.size, 1, none⟩) hzr).trans q1
        have hz2 : w.heap.size < w2.heap.size := Nat.lt_of_lt_of_le hzr b2.size
        rw [show (ByteArray.mk #[97, 97, 97]).data.toList = [97, 97, 97] from rfl]
        go_wp2_with fail
        have hcn := Xt.count_name Lib.itoa itoa_no60 [97, 97, 97] es next.data.toList
        have hcx := Xt.count_next Lib.itoa itoa_no60 [97, 97, 97] es next.data.toList
        have hat := fun (k : Nat) (e : Xp.Ent) (h : es[k]? = some e) => Xt.match_at (num := Lib.itoa) (bucket := [97, 97, 97]) (next := next.data.toList) h
        have hDb := doc_len (bucket := [97, 97, 97]) (by simp) hlen hf (by rw [Com.toList_length]; exact hnx : next.data.toList.length ≤ 1048576)
        generalize Xp.docList Lib.itoa [97, 97, 97] es next.data.toList = D at *
        have hDs : (ByteArray.mk D.toArray).size = D.length := Com.size_mk D
        obtain ⟨ps, hps⟩ : ∃ ps : Nat → Nat, ps = Xt.pos Lib.itoa [97, 97, 97] es := ⟨_, rfl⟩
        rw [← hps] at hat
        have HCN := Lib.hid hcn
        have HCX := Lib.hid hcx
        have HAT := Lib.hid hat
        have HENT := Lib.hid (hs.below B2)
        clear hcn hcx hat hps q0 q1 b2 HTab HEnts
        go_loopg [7, 8, 49] es.length (fun g p z i wx => ∃ (k at' : Nat), k + g = es.length ∧ i = .int .i64 k ∧ z = .int .i64 k ∧ p = .int .i64 at' ∧ at' ≤ ps k ∧
          wx.cell? ⟨w.heap.size, 0, none⟩ = some (.slice a es.length c) ∧ wx.cell? ⟨w.heap.size, 1, none⟩ = some (.string next) ∧ w.heap.size < wx.heap.size ∧ Below w.heap.size w wx)
        case atStart => exact ⟨0, 0, by omega, rfl, rfl, rfl, Nat.zero_le _, r0, r1, hz2, B2⟩
        case round =>
          obtain ⟨wy, rfl⟩ : ∃ wy : World, wy = wr := ⟨_, rfl⟩
          obtain ⟨k2, at', hkg2, rfl, rfl, rfl, hap, q0, q1, hzr2, hb2⟩ := hrel
          have HG2 := Lib.hid hkg2
          have hkx2 : k2 ≤ es.length := by omega
          clear hkg2 r0 r1
          have hsz2 := hb2.size
          by_cases hlt2 : k2 < es.length
          · obtain ⟨e, hek⟩ : ∃ e, es[k2]? = some e := ⟨es[k2], List.getElem?_eq_getElem hlt2⟩
            have hfe := hf e (List.mem_of_getElem? hek)
            have hsr := hs.below hb2
            obtain ⟨m1, m2, m3⟩ := HAT.out k2 e hek
            rcases hsr with h | ⟨b, o, rfl, hbb, h3⟩
            · rw [h] at hlt2; simp at hlt2
            obtain ⟨c0, c1, c2, c3, c4⟩ := h3 k2 e hek
            clear h3 hek
            obtain ⟨W, hW⟩ : ∃ W, W = Xt.want e := ⟨_, rfl⟩
            rw [← hW] at m1 m2 m3
            have HW := Lib.hid hW
            have HM2 := Lib.hid m2
            clear hW m2
            obtain ⟨nm, pr, sz, et, tm⟩ := e
            simp only at c0 c1 c2 c3 c4 hfe
            have hnm := hfe.1
            have hlb := Xp.esc_len nm
            have hWlen : W.length ≤ 7000000 := by
              rw [HW.out, Xt.want]
              cases pr <;> simp <;> omega
            have hpsD : ps k2 ≤ D.length := by omega
            have hDl := hDb
            cases pr
            all_goals
              go_wp2_with (go_at_call 23; refine (XmlB.refEscape ⟨nm.toArray⟩ _ (by rw [Com.size_mk]; omega)).mono ?_; rintro e w' ⟨rfl, rfl⟩)
              first
                | rw [show ((ByteArray.mk #[60, 75, 101, 121, 62, 60, 78, 97, 109, 101, 62]) ++ ((ByteArray.mk (Xp.esc nm).toArray) ++ (ByteArray.mk #[60, 47, 78, 97, 109, 101, 62]))) = ByteArray.mk W.toArray from (wantF nm).trans (by rw [HW.out]; rfl)]
                | rw [show ((ByteArray.mk #[60, 80, 114, 101, 102, 105, 120, 62, 60, 78, 97, 109, 101, 62]) ++ ((ByteArray.mk (Xp.esc nm).toArray) ++ (ByteArray.mk #[60, 47, 78, 97, 109, 101, 62]))) = ByteArray.mk W.toArray from (wantT nm).trans (by rw [HW.out]; rfl)]
              have hWs : (ByteArray.mk W.toArray).size = W.length := Com.size_mk W
              go_loopg [12] (ps k2 - at') (fun g j wz => ∃ i : Nat, at' ≤ i ∧ i + g = ps k2 ∧ j = .int .i64 i ∧
                wz.cell? ⟨w.heap.size, 0, none⟩ = some (.slice (some ⟨b, o, none⟩) es.length c) ∧ wz.cell? ⟨w.heap.size, 1, none⟩ = some (.string next) ∧ w.heap.size < wz.heap.size ∧ Below w.heap.size w wz)
              case atStart => exact ⟨at', Nat.le_refl _, by omega, rfl, (World.cell?_alloc_lt _ _ _ hzr2).trans q0, (World.cell?_alloc_lt _ _ _ hzr2).trans q1, by simp; omega, hb2.alloc hsz2 _⟩
              case round =>
                obtain ⟨i, hi1, hi2, rfl, u0, u1, hzu, hbu⟩ := hrel
                have HI := Lib.hid hi2
                have hi3 : i ≤ ps k2 := by omega
                clear hi2
                by_cases hm : (D.take (i + W.length)).drop i = W
                · have hx2 : (((ByteArray.mk D.toArray).extract i (i + W.length)).toList == W) = true := by
                    rw [Com.toList_data, Com.extract_data]
                    exact beq_iff_eq.2 hm
                  clear hm
                  go_wp2
                  go_roundg (es.length - (k2 + 1))
                  case measure => have := HG2.out; omega
                  case rel => exact ⟨k2 + 1, i + W.length, by omega, by go_num, by go_num, by go_num, by omega, u0, u1, hzu, hbu⟩
                · have hx2 : (((ByteArray.mk D.toArray).extract i (i + W.length)).toList == W) = false := by
                    rw [Com.toList_data, Com.extract_data]
                    exact beq_eq_false_iff_ne.2 hm
                  have hne : i ≠ ps k2 := fun h => hm (by rw [h]; exact HM2.out)
                  have hne2 : i < ps k2 := by omega
                  clear hm hne
                  go_wp2
                  go_roundg (gk - 1)
                  case measure => have := HI.out; omega
                  case rel => exact ⟨i + 1, by omega, by have := HI.out; omega, by go_num, u0, u1, hzu, hbu⟩
          · have hk2 : k2 = es.length := by omega
            have HK2 := Lib.hid hk2; clear hk2
            have hD0 := Nat.zero_le D.length
            go_wp2_with fail
            go_loopg [13, 14, 15] D.length (fun g z f p wz => ∃ (i n : Nat) (fb : Bool), i + g = D.length ∧ p = .int .i64 i ∧ z = .int .i64 n ∧ f = .bool fb ∧ n ≤ i ∧ Hid (n + Xt.cnt (60 :: Xt.qName) (D.drop i) = es.length) ∧
              Hid ((fb || decide (0 < Xt.cnt (60 :: Xt.qNext) (D.drop i))) = decide (0 < Xt.cnt (60 :: Xt.qNext) D)) ∧ wy = wz)
            case atStart => exact ⟨0, 0, false, by omega, rfl, rfl, rfl, by omega, by unfold Hid; rw [List.drop_zero, HCN.out]; omega, by unfold Hid; rw [List.drop_zero]; rfl, rfl⟩
            case round =>
              obtain ⟨i, n, fb, hig, rfl, rfl, rfl, hni, HN, HX, rfl⟩ := hrel
              have HI := Lib.hid hig
              have hiD : i ≤ D.length := by omega
              clear hig
              by_cases h6 : i + 6 ≤ D.length
              · have e1 := Xt.cnt_step (p := 60 :: Xt.qName) (s := D) (i := i) (by omega)
                have e2 := Xt.cnt_step (p := 60 :: Xt.qNext) (s := D) (i := i) (by omega)
                rw [Xt.pre_iff rfl] at e1 e2
                have hx1 : (((ByteArray.mk D.toArray).extract i (i + 6)).toList == [60, 78, 97, 109, 101, 62]) = ((D.take (i + 6)).drop i == 60 :: Xt.qName) := by
                  rw [Com.toList_data, Com.extract_data]; rfl
                have hx2 : (((ByteArray.mk D.toArray).extract i (i + 6)).toList == [60, 78, 101, 120, 116, 62]) = ((D.take (i + 6)).drop i == 60 :: Xt.qNext) := by
                  rw [Com.toList_data, Com.extract_data]; rfl
                generalize ((D.take (i + 6)).drop i == 60 :: Xt.qName) = g1 at *
                generalize ((D.take (i + 6)).drop i == 60 :: Xt.qNext) = g2 at *
                have E1 := Lib.hid e1
                have E2 := Lib.hid e2
                clear e1 e2
                cases g1 <;> cases g2 <;> cases fb
                all_goals
                  go_wp2
                  go_roundg (gk - 1)
                  case measure => have := HI.out; omega
                  case rel =>
                    first
                      | refine ⟨i + 1, n, _, by have := HI.out; omega, by go_num, rfl, rfl, by omega, ?_, ?_, rfl⟩
                      | refine ⟨i + 1, n + 1, _, by have := HI.out; omega, by go_num, by go_num, rfl, by omega, ?_, ?_, rfl⟩
                    · have h1 := HN.out
                      have h2 := E1.out
                      simp only [if_true, Bool.false_eq_true, if_false] at h2
                      unfold Hid
                      omega
                    · unfold Hid
                      rw [← HX.out, E2.out]
                      first | (simp; done) | (simp; omega)
              · have z1 : Xt.cnt (60 :: Xt.qName) (D.drop i) = 0 := Xt.cnt_short (by rw [List.length_drop]; show _ < 6; omega)
                have z2 : Xt.cnt (60 :: Xt.qNext) (D.drop i) = 0 := Xt.cnt_short (by rw [List.length_drop]; show _ < 6; omega)
                have hx := HX.out
                rw [z2, HCX.out] at hx
                have hnn : ((n : Int) == (k2 : Int)) = true := by
                  have h1 := HN.out
                  rw [z1, ← HK2.out] at h1
                  simp only [beq_iff_eq]; omega
                clear z1 z2 HX HN
                by_cases hnil : next.data.toList = []
                · have hn0 : next.toList.isEmpty = true := by rw [Com.toList_data, hnil]; rfl
                  rw [if_pos hnil] at hx
                  obtain rfl : fb = false := by simpa using hx
                  clear hx hnil
                  go_wp2
                  go_ret
                  exact ⟨rfl, hb2⟩
                · have hn0 : next.toList.isEmpty = false := by rw [Com.toList_data]; simpa using hnil
                  rw [if_neg hnil] at hx
                  obtain rfl : fb = true := by simpa using hx
                  clear hx hnil
                  go_wp2
                  go_ret
                  exact ⟨rfl, hb2⟩
end Go.Proofs.YtmimkgfkicgfiaaDoor.XmlJ
