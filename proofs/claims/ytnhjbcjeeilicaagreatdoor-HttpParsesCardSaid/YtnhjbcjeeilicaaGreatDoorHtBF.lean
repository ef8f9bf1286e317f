/-
  The walk of the document's fieldOf.
-/
import Derived.Test.YtnhjbcjeeilicaaGreatDoorHtBE
import Derived.Test.YtnhjbcjeeilicaaGreatDoorHtE
namespace Go.Proofs.YtnhjbcjeeilicaaGreatDoor.HtBF
open Go.RowKit Go.Proofs.YtnhjbcjeeilicaaGreatDoor Go.Proofs.YtnhjbcjeeilicaaGreatDoor.Ht Go.Proofs.YtnhjbcjeeilicaaGreatDoor.HtW Go.Proofs.YtnhjbcjeeilicaaGreatDoor.HtB Go.Proofs.YtnhjbcjeeilicaaGreatDoor.HtC Go.Proofs.YtnhjbcjeeilicaaGreatDoor.HtD Go.Proofs.YtnhjbcjeeilicaaGreatDoor.HtE Go.Proofs.YtnhjbcjeeilicaaGreatDoor.HtV Go.Proofs.YtnhjbcjeeilicaaGreatDoor.HtBA Go.Proofs.YtnhjbcjeeilicaaGreatDoor.HtBC Go.Proofs.YtnhjbcjeeilicaaGreatDoor.HtBD Go.Proofs.YtnhjbcjeeilicaaGreatDoor.HtBE

abbrev gv (s : List UInt8) : Value := .tuple #[.agg #[.string ⟨(gf s).1.toArray⟩, .string ⟨(gf s).2.toArray⟩], .bool (fine s)]
theorem gv_no {s : List UInt8} (h : Ht.field s = none) : gv s = .tuple #[.agg #[.string ⟨#[]⟩, .string ⟨#[]⟩], .bool false] := by
  unfold gv
  rw [(gf_none h).1, (gf_none h).2]
theorem gv_yes {s : List UInt8} {f : Fld} (h : Ht.field s = some f) : gv s = .tuple #[.agg #[.string ⟨f.1.toArray⟩, .string ⟨f.2.toArray⟩], .bool true] := by
  unfold gv
  rw [(gf_some h).1, (gf_some h).2]
theorem cls (n : Nat) : n = 58 ∨ (65 ≤ n ∧ n ≤ 90) ∨ ((97 ≤ n ∧ n ≤ 122) ∨ (48 ≤ n ∧ n ≤ 57) ∨ n = 45) ∨ ((n < 48 ∧ n ≠ 45) ∨ (59 ≤ n ∧ n ≤ 64) ∨ (91 ≤ n ∧ n ≤ 96) ∨ 123 ≤ n) := by omega
theorem nm_no {c : UInt8} (h : ¬ ((65 ≤ c.toNat ∧ c.toNat ≤ 90) ∨ (97 ≤ c.toNat ∧ c.toNat ≤ 122) ∨ (48 ≤ c.toNat ∧ c.toNat ≤ 57) ∨ c.toNat = 45)) : nmc c = false := by
  cases e : nmc c with
  | false => rfl
  | true => exact absurd ((nm_iff c).1 e) h
theorem drop_all (x : UInt8) (l : List UInt8) : dropL (x :: l) = if spc x = true then dropL l else x :: l := by
  unfold dropL
  rw [List.dropWhile_cons]
theorem dropR_snoc (l : List UInt8) (x : UInt8) : dropR (l ++ [x]) = if spc x = true then dropR l else l ++ [x] := by
  unfold dropR
  rw [List.reverse_append, List.reverse_singleton, List.singleton_append, List.dropWhile_cons]
  by_cases h : spc x = true
  · rw [if_pos h, if_pos h]
  · rw [if_neg h, if_neg h]; simp
theorem head_data {y : ByteArray} (h : 0 < y.size) : y.data.toList = y[0] :: (y.extract 1 y.size).data.toList := by
  rw [Com.extract_data, List.take_of_length_le (by rw [Com.toList_length]; exact Nat.le_refl _)]
  have h2 := get_data h
  obtain ⟨hl, h3⟩ := List.getElem?_eq_some_iff.1 h2
  have := List.drop_eq_getElem_cons hl
  rw [List.drop_zero, h3] at this
  exact this
theorem last_data {y : ByteArray} {n : Nat} (h : y.size = n + 1) (hn : n < y.size) : y.data.toList = (y.extract 0 n).data.toList ++ [y[n]] := by
  rw [Com.extract_data, List.drop_zero, ← Com.take_succ y n hn, Com.take_all y (n + 1) h.symm]
theorem spc_iff (c : UInt8) : spc c = true ↔ c = 32 ∨ c = 9 := by simp [spc]
theorem one_chr (w : World) (z : Int) (x : UInt8) (hz : z = (x.toNat : Int)) : (convert 22 9 (.slice (some ⟨w.heap.size, 0, none⟩) 1 1)).run Tryz.prog (w.alloc (.cells #[.int .u8 z] 5)) = .ok (.string ⟨[x].toArray⟩) (w.alloc (.cells #[.int .u8 z] 5)) := by
  subst hz
  have := Com.one_byte (P := Tryz.prog) w 22 9 5 Tryz.underlying22 Tryz.underlying5 Tryz.underlying9 x.toNat (UInt8.toNat_lt x)
  rwa [UInt8.ofNat_toNat] at this
/-- the name so far -/
def nam (s : List UInt8) (k : Nat) : List UInt8 := (s.take k).map lc
theorem nam_snoc {s : List UInt8} {k : Nat} {c : UInt8} (h : s[k]? = some c) : nam s (k + 1) = nam s k ++ [lc c] := by
  unfold nam
  rw [List.take_add_one, h, List.map_append]
  rfl

set_option maxHeartbeats 4000000 in
set_option maxRecDepth 100000 in
theorem fieldOf (s : ByteArray) (w : World) (hs : s.size ≤ 4294967296) :
    Calls Tryz.prog 20 #[.string s] w fun e w' => e = .returned (gv s.data.toList) ∧ Below w.heap.size w w' := by
  go_enter Tryz.func20, Tryz.ntmps20
  go_wp2
  go_loopg [4, 5, 6] s.size (fun g iv nv _ wr => ∃ k : Nat, k + g = s.size ∧ iv = .int .i64 k ∧ nv = .string ⟨(nam s.data.toList k).toArray⟩ ∧ Hid (Nm s.data.toList k) ∧ Fq w.heap.size wr (.string ⟨#[]⟩) (.string ⟨#[]⟩) ∧ Below w.heap.size w wr)
  case atStart => exact ⟨0, by omega, rfl, rfl, Nm.start _, heap_alloc_new _ _, (Below.refl _ w).alloc (Nat.le_refl _) _⟩
  case round =>
    obtain ⟨k, hg, rfl, rfl, HN, hF, hb⟩ := hrel
    have hks : k ≤ s.size := by omega
    have HG := Lib.hid hg; clear hg
    have hsz := hb.size
    have HB := Lib.hid hb
    have HF := Lib.hid hF
    obtain ⟨q0, q1, f0, f1⟩ := hF.cells
    clear hF hb
    have z0 : (0 : Int) ≤ k := by omega
    have hnl : (nam s.data.toList k).length = k := by unfold nam; rw [List.length_map, List.length_take, Com.toList_length]; omega
    by_cases hlt : k < s.size
    · have z1 : (k : Int) < s.size := by omega
      have g0 := get_data hlt
      have hNS := nam_snoc g0
      obtain ⟨c, hc⟩ : ∃ c, s[k] = c := ⟨_, rfl⟩
      rw [hc] at g0 hNS
      have hcl := UInt8.toNat_lt c
      rcases cls c.toNat with h | h | h | h
      · obtain rfl : c = 58 := UInt8.toNat_inj.1 h
        have t0 : ((s[k].toNat : Int) != 58) = false := by rw [hc]; rfl
        by_cases k0 : k = 0
        · subst k0
          have HV := Lib.hid (gv_no (field_zero g0))
          clear g0 hNS h hcl hc
          go_wp2
          refine bodyPost_ret ((HF.out.put _ _).run rfl rfl rfl) rfl ⟨?_, below_two HB.out _ _⟩
          rw [HV.out]; rfl
        · have k0' : ((k : Int) == 0) = false := beq_eq_false_iff_ne.2 (by omega)
          have k1' : ((k : Int) == (s.size : Int)) = false := beq_eq_false_iff_ne.2 (by omega)
          have hx := Com.extract_data s (k + 1) s.size
          rw [List.take_of_length_le (by rw [Com.toList_length]; exact Nat.le_refl _)] at hx
          have HBAD := Lib.hid (fun h => gv_no (field_value HN.out g0 h))
          have HOK := Lib.hid (show (s.data.toList.drop (k + 1)).all vlc = true → gv s.data.toList = .tuple #[.agg #[.string ⟨(nam s.data.toList k).toArray⟩, .string ⟨(dropR (dropL (s.data.toList.drop (k + 1)))).toArray⟩], .bool true] from fun h => by rw [gv_yes (field_made HN.out k0 g0 h), trim_eq]; rfl)
          have hxs : (s.extract (k + 1) s.size).size ≤ s.size := by rw [← Com.toList_length, hx, List.length_drop, Com.toList_length]; omega
          rw [← hx] at HBAD HOK
          clear g0 hNS h hcl hx k0 hc
          have z2 : (k : Int) + 1 ≤ s.size := by omega
          go_wp2
          generalize s.extract (k + 1) s.size = x at *
          generalize nam s.data.toList k = N at *
          go_loopg [8] x.size (fun g jv wr' => ∃ j : Nat, j + g = x.size ∧ jv = .int .i64 j ∧ Hid ((x.data.toList.take j).all vlc = true) ∧ wr' = wr)
          case atStart => exact ⟨0, by omega, rfl, rfl, rfl⟩
          case round =>
            obtain ⟨j, hg2, rfl, HA, rfl⟩ := hrel
            have hjx : j ≤ x.size := by omega
            have HG2 := Lib.hid hg2; clear hg2
            by_cases hlj : j < x.size
            · have y1 : (j : Int) < x.size := by omega
              have y0 : (0 : Int) ≤ j := by omega
              have hts := Com.take_succ x j hlj
              have hmem : x[j] ∈ x.data.toList := by
                have h3 : x[j] ∈ x.data.toList.take (j + 1) := by rw [hts]; simp
                exact List.mem_of_mem_take h3
              have NO := Lib.hid (show vlc x[j] = false → _ from fun h => HBAD.out (List.all_eq_false.2 ⟨_, hmem, by simp [h]⟩))
              have YES := Lib.hid (show vlc x[j] = true → (x.data.toList.take (j + 1)).all vlc = true from fun h => by rw [hts, List.all_append, HA.out]; simp [h])
              have hcl := UInt8.toNat_lt x[j]
              clear hts hmem
              by_cases a1 : x[j].toNat = 9
              · have t1 : ((x[j].toNat : Int) != 9) = false := by simp; omega
                have HV := Lib.hid (YES.out ((vl_iff _).2 (.inl a1)))
                clear a1
                go_wp2
                go_roundg (x.size - (j + 1))
                case measure => have := HG2.out; omega
                case rel => exact ⟨j + 1, by omega, by go_num, HV, rfl⟩
              · have t1 : ((x[j].toNat : Int) != 9) = true := by simp; omega
                by_cases a2 : x[j].toNat < 32
                · have t2 : (x[j].toNat : Int) < 32 := by omega
                  have HV := Lib.hid (NO.out (by cases h : vlc x[j]; · rfl
                                                 · rw [vl_iff] at h; omega))
                  go_wp2
                  refine bodyPost_ret ((HF.out.put _ _).run rfl rfl rfl) rfl ⟨?_, below_two HB.out _ _⟩
                  rw [HV.out]; rfl
                · have t2 : ¬ (x[j].toNat : Int) < 32 := by omega
                  by_cases a3 : x[j].toNat ≤ 126
                  · have t3 : ¬ 126 < (x[j].toNat : Int) := by omega
                    have HV := Lib.hid (YES.out ((vl_iff _).2 (.inr (by omega))))
                    go_wp2
                    go_roundg (x.size - (j + 1))
                    case measure => have := HG2.out; omega
                    case rel => exact ⟨j + 1, by omega, by go_num, HV, rfl⟩
                  · have t3 : 126 < (x[j].toNat : Int) := by omega
                    have HV := Lib.hid (NO.out (by cases h : vlc x[j]; · rfl
                                                   · rw [vl_iff] at h; omega))
                    go_wp2
                    refine bodyPost_ret ((HF.out.put _ _).run rfl rfl rfl) rfl ⟨?_, below_two HB.out _ _⟩
                    rw [HV.out]; rfl
            · have y1 : ¬ (j : Int) < x.size := by omega
              have hall := HA.out
              rw [Com.take_all x j (by omega)] at hall
              have HFIN := Lib.hid (HOK.out hall)
              clear hall HOK HBAD HA
              go_wp2
              go_loopg [7] x.size (fun g v wr' => ∃ y : ByteArray, y.size = g ∧ g ≤ x.size ∧ v = .string y ∧ Hid (dropL y.data.toList = dropL x.data.toList) ∧ wr' = wr)
              case atStart => exact ⟨x, rfl, Nat.le_refl _, rfl, rfl, rfl⟩
              case round =>
                obtain ⟨y, rfl, hyx, rfl, HD, rfl⟩ := hrel
                by_cases hr : ∃ h : 0 < y.size, y[0] = 32 ∨ y[0] = 9
                · obtain ⟨hy, h2⟩ := hr
                  have hd := head_data hy
                  have HD2 := HD.out
                  rw [hd, drop_all, if_pos ((spc_iff _).2 h2)] at HD2
                  have HD3 := Lib.hid HD2
                  clear hd HD2
                  have y3 : (0 : Int) < y.size := by omega
                  rcases h2 with h2 | h2
                  · have t1 : ((y[0].toNat : Int) == 32) = true := by rw [h2]; rfl
                    clear h2
                    go_wp2
                    go_roundg (y.size - 1)
                    case measure => omega
                    case rel => exact ⟨_, by rw [ByteArray.size_extract]; omega, by omega, rfl, HD3, rfl⟩
                  · have t0 : ((y[0].toNat : Int) == 32) = false := by rw [h2]; rfl
                    have t1 : ((y[0].toNat : Int) == 9) = true := by rw [h2]; rfl
                    clear h2
                    go_wp2
                    go_roundg (y.size - 1)
                    case measure => omega
                    case rel => exact ⟨_, by rw [ByteArray.size_extract]; omega, by omega, rfl, HD3, rfl⟩
                · have HX := Lib.hid (show dropL x.data.toList = y.data.toList by
                    rw [← HD.out]
                    rcases Nat.eq_zero_or_pos y.size with h0 | h0
                    · rw [List.eq_nil_of_length_eq_zero (show y.data.toList.length = 0 by rw [Com.toList_length]; exact h0)]; rfl
                    · rw [head_data h0, drop_all, if_neg (fun h => hr ⟨h0, (spc_iff _).1 h⟩)])
                  have hcase : (∃ h : 0 < y.size, ((y[0].toNat : Int) == 32) = false ∧ ((y[0].toNat : Int) == 9) = false) ∨ ¬ (0 : Int) < y.size := by
                    rcases Nat.eq_zero_or_pos y.size with h0 | h0
                    · exact .inr (by omega)
                    · exact .inl ⟨h0, Com.u8_ne (fun e => hr ⟨h0, .inl e⟩) rfl, Com.u8_ne (fun e => hr ⟨h0, .inr e⟩) rfl⟩
                  clear hr
                  rcases hcase with ⟨hy, t0, t1⟩ | y3
                  · have y3 : (0 : Int) < y.size := by omega
                    go_wp2
                    go_loopg [7] y.size (fun g v wr' => ∃ z : ByteArray, z.size = g ∧ g ≤ y.size ∧ v = .string z ∧ Hid (dropR z.data.toList = dropR y.data.toList) ∧ wr' = wr)
                    case atStart => exact ⟨y, rfl, Nat.le_refl _, rfl, rfl, rfl⟩
                    case round =>
                      obtain ⟨z, rfl, hzy, rfl, HE, rfl⟩ := hrel
                      rcases Nat.eq_zero_or_pos z.size with h0 | h0
                      · have w3 : ¬ (0 : Int) < z.size := by omega
                        have HZ := Lib.hid (show dropR z.data.toList = z.data.toList by rw [List.eq_nil_of_length_eq_zero (show z.data.toList.length = 0 by rw [Com.toList_length]; exact h0)]; rfl)
                        go_wp2
                        refine bodyPost_ret ((HF.out.put _ _).run rfl rfl rfl) rfl ⟨?_, below_two HB.out _ _⟩
                        rw [HFIN.out, HX.out, ← HE.out, HZ.out, Com.mk_data]; rfl
                      · obtain ⟨n, hn⟩ : ∃ n, z.size = n + 1 := ⟨z.size - 1, by omega⟩
                        have hnz : n < z.size := by omega
                        have hd := last_data hn hnz
                        have w3 : (0 : Int) < z.size := by omega
                        have w4 : (z.size : Int) - 1 = n := by omega
                        have w5 : (0 : Int) ≤ n := by omega
                        have w6 : (n : Int) < z.size := by omega
                        have w7 : (n : Int) ≤ z.size := by omega
                        have HN := Lib.hid hn
                        clear hn
                        by_cases hs2 : z[n] = 32 ∨ z[n] = 9
                        · have HD2 := HE.out
                          rw [hd, dropR_snoc, if_pos ((spc_iff _).2 hs2)] at HD2
                          have HD3 := Lib.hid HD2
                          clear hd HD2
                          rcases hs2 with h2 | h2
                          · have t1 : ((z[n].toNat : Int) == 32) = true := by rw [h2]; rfl
                            clear h2
                            go_wp2
                            go_roundg (z.size - 1)
                            case measure => omega
                            case rel => exact ⟨_, by rw [ByteArray.size_extract]; have := HN.out; omega, by omega, rfl, HD3, rfl⟩
                          · have t1 : ((z[n].toNat : Int) == 32) = false := by rw [h2]; rfl
                            have t2 : ((z[n].toNat : Int) == 9) = true := by rw [h2]; rfl
                            clear h2
                            go_wp2
                            go_roundg (z.size - 1)
                            case measure => omega
                            case rel => exact ⟨_, by rw [ByteArray.size_extract]; have := HN.out; omega, by omega, rfl, HD3, rfl⟩
                        · have HZ := Lib.hid (show dropR z.data.toList = z.data.toList by
                            rw [hd, dropR_snoc, if_neg (fun h => hs2 ((spc_iff _).1 h))])
                          have t1 : ((z[n].toNat : Int) == 32) = false := Com.u8_ne (fun e => hs2 (.inl e)) rfl
                          have t2 : ((z[n].toNat : Int) == 9) = false := Com.u8_ne (fun e => hs2 (.inr e)) rfl
                          clear hd hs2
                          go_wp2
                          refine bodyPost_ret ((HF.out.put _ _).run rfl rfl rfl) rfl ⟨?_, below_two HB.out _ _⟩
                          rw [HFIN.out, HX.out, ← HE.out, HZ.out, Com.mk_data]; rfl
                  · have y30 : y.size = 0 := by omega
                    go_wp2
                    go_loopg [7] y.size (fun g v wr' => ∃ z : ByteArray, z.size = g ∧ g ≤ y.size ∧ v = .string z ∧ Hid (dropR z.data.toList = dropR y.data.toList) ∧ wr' = wr)
                    case atStart => exact ⟨y, rfl, Nat.le_refl _, rfl, rfl, rfl⟩
                    case round =>
                      obtain ⟨z, rfl, hzy, rfl, HE, rfl⟩ := hrel
                      rcases Nat.eq_zero_or_pos z.size with h0 | h0
                      · have w3 : ¬ (0 : Int) < z.size := by omega
                        have HZ := Lib.hid (show dropR z.data.toList = z.data.toList by rw [List.eq_nil_of_length_eq_zero (show z.data.toList.length = 0 by rw [Com.toList_length]; exact h0)]; rfl)
                        go_wp2
                        refine bodyPost_ret ((HF.out.put _ _).run rfl rfl rfl) rfl ⟨?_, below_two HB.out _ _⟩
                        rw [HFIN.out, HX.out, ← HE.out, HZ.out, Com.mk_data]; rfl
                      · exact absurd h0 (by omega)
      · have HM := Lib.hid (HN.out.step g0 (fun e => by subst e; exact absurd h (by decide)) ((nm_iff _).2 (by omega)))
        have EV := Lib.hid (show (c.toNat : Int) + 32 = ((lc c).toNat : Int) by rw [lc_up (by omega)]; omega)
        have e1 : IntKind.u8.wrap ((c.toNat : Int) + 32) = (c.toNat : Int) + 32 := u8_wrap (by omega) (by omega)
        have t0 : ((c.toNat : Int) != 58) = true := by simp; omega
        have b0 : (65 : Int) ≤ c.toNat := by omega
        have b1 : (c.toNat : Int) ≤ 90 := by omega
        have b2 : (97 : Int) ≤ (c.toNat : Int) + 32 := by omega
        have b3 : (c.toNat : Int) + 32 ≤ 122 := by omega
        have kc := one_chr wr ((c.toNat : Int) + 32) (lc c) EV.out
        have HS := Lib.hid hNS
        clear g0 hNS
        go_wp2
        go_roundg (s.size - (k + 1))
        case measure => have := HG.out; omega
        case rel => exact ⟨k + 1, by omega, by go_num, Com.cat HS.out, HM, HF.out.below ((Below.refl _ _).alloc (Nat.le_refl _) _), HB.out.alloc hsz _⟩
      · rcases h with h | h | h
        all_goals
          have HM := Lib.hid (HN.out.step g0 (fun e => by subst e; exact absurd h (by decide)) ((nm_iff _).2 (by omega)))
          have EV := Lib.hid (show (c.toNat : Int) = ((lc c).toNat : Int) by rw [lc_no (by omega)])
          have t0 : ((c.toNat : Int) != 58) = true := by simp; omega
          first | have b0 : (65 : Int) ≤ c.toNat := by omega | have b0 : ¬ (65 : Int) ≤ c.toNat := by omega
          first | have b1 : (c.toNat : Int) ≤ 90 := by omega | have b1 : ¬ (c.toNat : Int) ≤ 90 := by omega
          first | have b2 : (97 : Int) ≤ c.toNat := by omega | have b2 : ¬ (97 : Int) ≤ c.toNat := by omega
          first | have b3 : (c.toNat : Int) ≤ 122 := by omega | have b3 : ¬ (c.toNat : Int) ≤ 122 := by omega
          first | have b4 : (48 : Int) ≤ c.toNat := by omega | have b4 : ¬ (48 : Int) ≤ c.toNat := by omega
          first | have b5 : (c.toNat : Int) ≤ 57 := by omega | have b5 : ¬ (c.toNat : Int) ≤ 57 := by omega
          first | have b6 : ((c.toNat : Int) == 45) = false := beq_eq_false_iff_ne.2 (by omega) | have b6 : ((c.toNat : Int) == 45) = true := beq_iff_eq.2 (by omega)
          have kc := one_chr wr (c.toNat : Int) (lc c) EV.out
          have HS := Lib.hid hNS
          clear g0 hNS h
          go_wp2
          go_roundg (s.size - (k + 1))
          case measure => have := HG.out; omega
          case rel => exact ⟨k + 1, by omega, by go_num, Com.cat HS.out, HM, HF.out.below ((Below.refl _ _).alloc (Nat.le_refl _) _), HB.out.alloc hsz _⟩
      · rcases h with h | h | h | h
        all_goals
          have HV := Lib.hid (gv_no (field_bad HN.out g0 (fun e => by subst e; revert h; decide) (nm_no (by omega))))
          have t0 : ((c.toNat : Int) != 58) = true := by simp; omega
          first | have b0 : (65 : Int) ≤ c.toNat := by omega | have b0 : ¬ (65 : Int) ≤ c.toNat := by omega
          first | have b1 : (c.toNat : Int) ≤ 90 := by omega | have b1 : ¬ (c.toNat : Int) ≤ 90 := by omega
          first | have b2 : (97 : Int) ≤ c.toNat := by omega | have b2 : ¬ (97 : Int) ≤ c.toNat := by omega
          first | have b3 : (c.toNat : Int) ≤ 122 := by omega | have b3 : ¬ (c.toNat : Int) ≤ 122 := by omega
          first | have b4 : (48 : Int) ≤ c.toNat := by omega | have b4 : ¬ (48 : Int) ≤ c.toNat := by omega
          first | have b5 : (c.toNat : Int) ≤ 57 := by omega | have b5 : ¬ (c.toNat : Int) ≤ 57 := by omega
          have b6 : ((c.toNat : Int) == 45) = false := by simp; omega
          clear g0 hNS
          go_wp2
          refine bodyPost_ret ((HF.out.put _ _).run rfl rfl rfl) rfl ⟨?_, below_two HB.out _ _⟩
          rw [HV.out]; rfl
    · have z1 : ¬ (k : Int) < s.size := by omega
      obtain rfl : k = s.size := by omega
      have HV := Lib.hid (gv_no (field_nocolon (by rw [Com.toList_length]; exact HN.out)))
      by_cases h0 : s.size = 0
      · go_wp2
        refine bodyPost_ret ((HF.out.put _ _).run rfl rfl rfl) rfl ⟨?_, below_two HB.out _ _⟩
        rw [HV.out]; rfl
      · have h0' : ((s.size : Int) == 0) = false := beq_eq_false_iff_ne.2 (by omega)
        go_wp2
        refine bodyPost_ret ((HF.out.put _ _).run rfl rfl rfl) rfl ⟨?_, below_two HB.out _ _⟩
        rw [HV.out]; rfl
end Go.Proofs.YtnhjbcjeeilicaaGreatDoor.HtBF
