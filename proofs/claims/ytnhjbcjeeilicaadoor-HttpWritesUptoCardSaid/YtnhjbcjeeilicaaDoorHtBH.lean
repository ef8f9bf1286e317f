/-
  The walk of the document's Request.
-/
import Derived.Test.YtnhjbcjeeilicaaDoorHtBB
import Derived.Test.YtnhjbcjeeilicaaDoorHtC
import Derived.Test.YtnhjbcjeeilicaaDoorHtM
import Derived.Deep.LoopGhost
import Derived.Deep.RegionHeld3
import Derived.Deep.RegionLaw
import Derived.Deep.RegionLawGrows
import Derived.Deep.Upon
namespace Go.Proofs.YtnhjbcjeeilicaaDoor.HtBH
open Go.RowKit Go.Proofs.YtnhjbcjeeilicaaDoor Go.Proofs.YtnhjbcjeeilicaaDoor.Ht Go.Proofs.YtnhjbcjeeilicaaDoor.HtW Go.Proofs.YtnhjbcjeeilicaaDoor.HtC Go.Proofs.YtnhjbcjeeilicaaDoor.HtM Go.Proofs.YtnhjbcjeeilicaaDoor.HtBB

theorem lns_take {fs : List Fld} {k : Nat} {q : Fld} (h : fs[k]? = some q) : lns (fs.take (k + 1)) = lns (fs.take k) ++ ln q := by
  rw [List.take_add_one, h]
  exact lns_snoc _ _
theorem lns_le {fs : List Fld} {k : Nat} {q : Fld} (h : fs[k]? = some q) : (lns (fs.take k)).length + (ln q).length ≤ (lns fs).length := by
  have e : lns fs = lns (fs.take (k + 1)) ++ lns (fs.drop (k + 1)) := by
    unfold lns
    rw [← List.flatten_append, ← List.map_append, List.take_append_drop]
  rw [e, lns_take h, List.length_append, List.length_append]
  omega
theorem req_length (m t bd : List UInt8) (fs : List Fld) : (req m t fs bd).length = (top m t).length + (lns fs).length + 2 + bd.length := by
  unfold req
  simp only [List.length_append]
  rfl
theorem top_length (m t : List UInt8) : (top m t).length = m.length + 1 + t.length + 11 := by
  unfold top
  simp only [List.length_append]
  rfl

theorem wpList_append_bs {ops : Array Oper} {rest : List Oper} {o : Oper} {a : Act} {Q : Exit → Act → World → Prop} (w : World) (hg : o.guard = none) (s x : Operand) (hop : o.op = Op.call { callee := Callee.builtin Builtin.append, args := #[s, x], argTypes := #[23, 23] })
    (base b : Nat) (hbb : base ≤ b) (hbs : base ≤ w.heap.size) (cur : Array Value) (k : Nat) (hrow : w.heap[b]? = some (.cells cur 5 (k, k + 1))) (hk : cur.size = k) (l bd : List UInt8) (cap : Nat) (hcap : l.length ≤ cap) (hcapk : cap ≤ k)
    (hl : ∀ (j : Nat) x, l[j]? = some x → cur[j]? = some (.int .u8 (x.toNat : Int))) (aB : Option Addr) (cB : Nat) (hB : Bs w aB bd cB) (hlen : l.length + bd.length ≤ 140737488355328)
    (hs : a.eval s = .slice (some ⟨b, 0, none⟩) l.length cap) (hx : a.eval x = .slice aB bd.length cB)
    (hK : ∀ ar cr w', Bs w' ar (l ++ bd) cr → (∀ p, ar = some p → base ≤ p.block) → Below base w w' → wpList Tryd.prog ops Q rest (a.put o.dst (.slice ar (l.length + bd.length) cr)) w') :
    wpList Tryd.prog ops Q (o :: rest) a w := by
  refine wpList_plain hg fun K hK' => ?_
  obtain ⟨ar, cr, w', hrun, h1, h2, h3⟩ := run_append_bs w base b hbb hbs cur k hrow hk l bd cap hcap hcapk hl aB cB hB hlen o.type
  unfold Oper.wp
  simp [execOp, hop, resolve, invoke, builtin, hs, hx, hrun, Result.andThen]
  exact hK' _ _ (hK ar cr w' h1 h2 h3)

set_option maxHeartbeats 4000000 in
set_option maxRecDepth 100000 in
theorem request (m t bd : List UInt8) (fs : List Fld) {a ab : Option Addr} (c cb : Nat) (w : World) (hf : Fs w a fs) (hb : Bs w ab bd cb) (hl : (req m t fs bd).length ≤ 4294967296) (hfl : fs.length ≤ 4294967296) :
    Calls Tryd.prog 22 #[.agg #[.string ⟨m.toArray⟩, .string ⟨t.toArray⟩, .slice a fs.length c, .slice ab bd.length cb]] w fun e w' => (∃ ar cr, e = .returned (.slice ar (req m t fs bd).length cr) ∧ Bs w' ar (req m t fs bd) cr ∧ (∀ p, ar = some p → w.heap.size ≤ p.block)) ∧ Below w.heap.size w w' := by
  have hrl := req_length m t bd fs
  have htl := top_length m t
  have HF := Lib.hid hf; clear hf
  have HB := Lib.hid hb; clear hb
  have s1 : ¬ 9223372036854775807 < m.length + 1 := by omega
  have s2 : ¬ 9223372036854775807 < m.length + 1 + t.length := by omega
  have s3 : ¬ 9223372036854775807 < m.length + 1 + t.length + 11 := by omega
  have hbX : Below w.heap.size w (w.alloc (.cells #[.string ⟨m.toArray⟩, .string ⟨t.toArray⟩, .slice a fs.length c, .slice ab bd.length cb] 25)) := (Below.refl _ _).alloc (Nat.le_refl _) _
  have hRX : Rq w.heap.size (w.alloc (.cells #[.string ⟨m.toArray⟩, .string ⟨t.toArray⟩, .slice a fs.length c, .slice ab bd.length cb] 25)) (.string ⟨m.toArray⟩) (.string ⟨t.toArray⟩) (.slice a fs.length c) (.slice ab bd.length cb) := heap_alloc_new _ _
  have HL := Lib.hid (show (req m t fs bd).length ≤ 4294967296 from hl)
  have HRL := Lib.hid hrl; clear hrl
  have HTL := Lib.hid htl; clear htl
  go_enter Tryd.func22, Tryd.ntmps22
  go_wp2_with fail
  generalize w.alloc (.cells #[.string ⟨m.toArray⟩, .string ⟨t.toArray⟩, .slice a fs.length c, .slice ab bd.length cb] 25) = X at *
  obtain ⟨x0, x1, x2, x3, -, -, -, -⟩ := hRX.cells
  go_wp2_with fail
  have HT := Lib.hid (show (⟨m.toArray⟩ : ByteArray) ++ ⟨#[32]⟩ ++ ⟨t.toArray⟩ ++ ⟨#[32, 72, 84, 84, 80, 47, 49, 46, 49, 13, 10]⟩ = ⟨(top m t).toArray⟩ by
    unfold top
    rw [← Com.mk_append, ← Com.mk_append, ← Com.mk_append]; rfl)
  have HBX := Lib.hid hbX; clear hbX
  have HRX := Lib.hid hRX; clear hRX x0 x1 x2 x3
  rw [HT.out]
  go_loopg [3, 16] fs.length (fun g s v wr => ∃ k : Nat, k + g = fs.length ∧ v = .int .i64 k ∧ s = .string ⟨(top m t ++ lns (fs.take k)).toArray⟩ ∧ Hid (Rq w.heap.size wr (.string ⟨m.toArray⟩) (.string ⟨t.toArray⟩) (.slice a fs.length c) (.slice ab bd.length cb)) ∧ Hid (Below w.heap.size w wr))
  case atStart => exact ⟨0, by omega, rfl, by simp [lns], HRX, HBX⟩
  case round =>
    obtain ⟨k, hkg, rfl, rfl, HR, HW⟩ := hrel
    have HG := Lib.hid hkg
    have hk : k ≤ fs.length := by omega
    clear hkg
    by_cases hlt : k < fs.length
    · obtain ⟨q, hq⟩ : ∃ q, fs[k]? = some q := ⟨fs[k], List.getElem?_eq_getElem hlt⟩
      obtain ⟨b, o, rfl, hbb, d0, d1⟩ := Fs.at HF.out hq
      obtain ⟨nm, vl⟩ := q
      have c0 := (HW.out.cell (p := ⟨b, _, none⟩) hbb).trans d0
      have c1 := (HW.out.cell (p := ⟨b, _, none⟩) hbb).trans d1
      simp only at c0 c1
      have hle := lns_le hq
      have hN := Lib.hid (lns_take hq)
      have hll : (ln (nm, vl)).length = nm.length + 2 + vl.length + 2 := by simp [ln, colon, crlf]; omega
      have hl2 := HL.out
      rw [HRL.out] at hl2
      have e1 : (top m t ++ lns (fs.take k)).length = (top m t).length + (lns (fs.take k)).length := List.length_append
      have s4 : ¬ 9223372036854775807 < nm.length + 2 := by omega
      have s5 : ¬ 9223372036854775807 < nm.length + 2 + vl.length := by omega
      have s6 : ¬ 9223372036854775807 < nm.length + 2 + vl.length + 2 := by omega
      have s7 : ¬ 9223372036854775807 < (top m t ++ lns (fs.take k)).length + (nm.length + 2 + vl.length + 2) := by omega
      have hal := (Below.refl wr.heap.size wr).alloc (Nat.le_refl _) (.cells #[.string ⟨nm.toArray⟩, .string ⟨vl.toArray⟩] 30)
      have HR2 := Lib.hid (HR.out.below hal)
      have HW2 := Lib.hid (HW.out.trans (hal.mono HW.out.size))
      have HE := Lib.hid (show (⟨(top m t ++ lns (fs.take k)).toArray⟩ : ByteArray) ++ (⟨nm.toArray⟩ ++ ⟨#[58, 32]⟩ ++ ⟨vl.toArray⟩ ++ ⟨#[13, 10]⟩) = ⟨(top m t ++ lns (fs.take (k + 1))).toArray⟩ by
        rw [hN.out, ← List.append_assoc]
        have e : ln (nm, vl) = nm ++ [58, 32] ++ vl ++ [13, 10] := rfl
        rw [e, ← Com.mk_append _ (nm ++ [58, 32] ++ vl ++ [13, 10]), ← Com.mk_append _ [13, 10], ← Com.mk_append _ vl, ← Com.mk_append nm])
      clear hq d0 d1 hll e1 hal hl2 hle
      generalize top m t ++ lns (fs.take k) = T at *
      go_wp2_with fail
      go_roundg (fs.length - (k + 1))
      case measure => have := HG.out; omega
      case rel => exact ⟨k + 1, by omega, by go_num, by rw [← HE.out], HR2, HW2⟩
    · have hkk : fs.take k = fs := List.take_of_length_le (by omega)
      rw [hkk]
      obtain ⟨x0, x1, x2, x3, -, -, -, -⟩ := HR.out.cells
      have kc := fun w s => Lib.run_convert_string_bytes (P := Tryd.prog) w 9 23 5 s Tryd.underlying9 Tryd.underlying23 Tryd.underlying5
      obtain ⟨T2, hT2⟩ : ∃ T2, T2 = top m t ++ lns fs ++ [13, 10] := ⟨_, rfl⟩
      have hcat : (⟨(top m t ++ lns fs).toArray⟩ : ByteArray) ++ ⟨#[13, 10]⟩ = ⟨T2.toArray⟩ := by rw [hT2]; exact Com.mk_append _ [13, 10]
      have hT2l : T2.length = (top m t ++ lns fs).length + 2 := by rw [hT2, List.length_append]; rfl
      have HREQ := Lib.hid (show req m t fs bd = T2 ++ bd by rw [hT2]; rfl)
      have hl2 := HL.out
      rw [HREQ.out, List.length_append] at hl2
      have hz := HR.out.lt
      have HT2l := Lib.hid hT2l
      clear hT2 hkk
      have sT : ¬ 9223372036854775807 < (top m t ++ lns fs).length + 2 := by omega
      have hn2 : T2.length + bd.length ≤ 140737488355328 := by omega
      clear hT2l hl2
      generalize top m t ++ lns fs = T at *
      have y3 := (Lib.bytesWorld_old wr 5 ⟨T2.toArray⟩ ⟨w.heap.size, 3, none⟩ hz).trans x3
      have hcv := Lib.bytesWorld_below wr 5 ⟨T2.toArray⟩
      have hcs := Lib.bytesWorld_size wr 5 ⟨T2.toArray⟩
      obtain ⟨cur9, k9, q1, q2, q3, q4, q5⟩ := conv_row wr T2
      have Q1 := Lib.hid q1
      have Q2 := Lib.hid q2
      have Q5 := Lib.hid q5
      have Q3 := Lib.hid q3
      have Q4 := Lib.hid q4
      have HCV := Lib.hid hcv
      have HCS := Lib.hid hcs
      clear q1 q2 q3 q4 q5 hcv hcs
      go_wp2_with (at_builtin; refine wpList_append_bs _ rfl (.tmp 32) (.tmp 34) rfl wr.heap.size wr.heap.size (Nat.le_refl _) (by rw [HCS.out]; omega) cur9 k9 Q1.out Q2.out T2 bd _ Q3.out Q4.out Q5.out ab cb (HB.out.below (HW.out.trans (HCV.out.mono (Nat.le_of_lt hz)))) hn2 rfl rfl ?_; intro ar cr w10 u1 u2 u3)
      go_ret
      have hl3 : (req m t fs bd).length = T2.length + bd.length := by rw [HREQ.out, List.length_append]
      refine ⟨⟨ar, cr, (by rw [hl3]; rfl), by rw [HREQ.out]; exact u1, fun p hp => by have := u2 p hp; omega⟩, ?_⟩
      exact HW.out.trans ((HCV.out.trans u3).mono (Nat.le_of_lt hz))
end Go.Proofs.YtnhjbcjeeilicaaDoor.HtBH
