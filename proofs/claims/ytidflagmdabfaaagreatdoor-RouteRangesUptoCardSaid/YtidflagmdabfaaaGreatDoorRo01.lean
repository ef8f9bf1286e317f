/-
  errors.Is over the errors of errors.New's make (turned from the worked proof Sentry). The walks of package xml's entity, Escape, and of the reference's Escape. The walks of the reference's Escape and tag. The walks of package xml's Tag, Text, Error and of the law's alive. Answers in memory; the walks of package route's failed and Refuse. The walks of package route's fields and Give.
-/
import Derived.Test.YtidflagmdabfaaaGreatDoorSg01
import Derived.Test.YtidflagmdabfaaaGreatDoorSg07
import Derived.Test.YtidflagmdabfaaaGreatDoorSg08
import Derived.Test.YtidflagmdabfaaaGreatDoorSg09
import Derived.Test.YtidflagmdabfaaaGreatDoorSg16
import Derived.Test.YtidflagmdabfaaaGreatDoorSg22
import Derived.Test.YtidflagmdabfaaaGreatDoorSc07
import Derived.Stop.Asserts
import Derived.RowKitTokens
import Derived.WalkKit
import Derived.Outline
import Derived.Lib.Hide
import Derived.WalkSpells
import Derived.WalkLawsBesides
import Derived.Deep.RegionHeld3
namespace Go.Proofs.YtidflagmdabfaaaGreatDoor.IsE
open Go.RowKit Go.Extern.Stop Go.Stop Go.Extern Go.Proofs.YtidflagmdabfaaaGreatDoor Go.Proofs.YtidflagmdabfaaaGreatDoor.Err

theorem isTypeOf (v : Value) (w : World) : (Extern.ReflectliteType.typeOf #[.iface 288 v]).run Tryz.prog w = .ok (.iface 205 (.agg #[.pointer (some ⟨26, 288, none⟩)])) w := by kernel_rfl
def cmpF : TypeId → Sem Value := fun t => do Go.Extern.Rtype.noPackHeld "Comparable" t; pure (.bool (← typeInfo t).comparable)
theorem isComparable (w : World) : ((Extern.ReflectliteType.method cmpF) #[.agg #[.pointer (some ⟨26, 288, none⟩)]]).run Tryz.prog w = .ok (.bool true) w := by kernel_rfl
theorem isMethodComparable (v : Value) (w : World) : (Go.method 424 205 v "Comparable").run Tryz.prog w = .ok (266, v) w := by kernel_rfl
theorem noIsE (v : Value) (xT : TypeId) (w : World) : (Instr.typeAssert (.iface 288 v) xT 207 true).run Tryz.prog w = .ok (.tuple #[.nilIface, .bool false]) w := run_typeAssert_lacksB Tryz.underlying207 (by kernel_rfl) (by kernel_rfl) v xT w
theorem noUnwrapE (v : Value) (xT : TypeId) (w : World) : (Instr.typeAssert (.iface 288 v) xT 210 true).run Tryz.prog w = .ok (.tuple #[.nilIface, .bool false]) w := run_typeAssert_lacksB Tryz.underlying210 (by kernel_rfl) (by kernel_rfl) v xT w
theorem noUnwrapsE (v : Value) (xT : TypeId) (w : World) : (Instr.typeAssert (.iface 288 v) xT 211 true).run Tryz.prog w = .ok (.tuple #[.nilIface, .bool false]) w := run_typeAssert_lacksB Tryz.underlying211 (by kernel_rfl) (by kernel_rfl) v xT w

/-- errors.Is(nil, x) -/
theorem is_nil (b : Addr) (w : World) : Calls Tryz.prog 59 #[.nilIface, ev b] w fun e w' => e = .returned (.bool false) ∧ w = w' := by
  have hn := run_eql_iface_nil_left (P := Tryz.prog) w 288 (.pointer (some b)) Tryz.underlying39
  go_enter Tryz.func59, Tryz.ntmps59
  go_wp2
  go_ret
  exact ⟨rfl, rfl⟩
/-- errors.is(x, x) -/
theorem iss_same (a : Addr) (w : World) : Calls Tryz.prog 104 #[ev a, ev a, .bool true] w fun e w' => e = .returned (.bool true) ∧ w = w' := by
  have heq := eqErr a w
  go_enter Tryz.func104, Tryz.ntmps104
  go_wp2
  refine wp_loop_rounds 1 ?_
  rw [rounds_succ]
  go_wp2
  go_ret
  exact ⟨rfl, rfl⟩
/-- errors.is(x, y) at two other errors -/
theorem iss_other {a b : Addr} {ca cb : Array Value} {ta tb : TypeId} {w : World} (hne : a ≠ b) (ha : w.heap[a.block]? = some (.cells ca ta (0, 0))) (hb : w.heap[b.block]? = some (.cells cb tb (0, 0))) : Calls Tryz.prog 104 #[ev a, ev b, .bool true] w fun e w' => e = .returned (.bool false) ∧ w = w' := by
  have heq := neErr hne ha hb
  have nE := noIsE
  have uE := noUnwrapE
  have vE := noUnwrapsE
  go_enter Tryz.func104, Tryz.ntmps104
  go_wp2
  refine wp_loop_rounds 1 ?_
  rw [rounds_succ]
  go_wp2
  go_ret
  exact ⟨rfl, rfl⟩
set_option maxHeartbeats 1000000 in
set_option maxRecDepth 100000 in
/-- errors.Is(x, x) -/
theorem is_same (a : Addr) (w : World) : Calls Tryz.prog 59 #[ev a, ev a] w fun e w' => e = .returned (.bool true) ∧ w = w' := by
  have h8 := @run_callFunc_extern Tryz.prog 103 _ Extern.ReflectliteType.typeOf Tryz.func103 (by kernel_rfl) (by kernel_rfl) (by kernel_rfl) (by kernel_rfl)
  have h32 := @run_callFunc_extern Tryz.prog 266 _ (Extern.ReflectliteType.method cmpF) Tryz.func266 (by kernel_rfl) (by kernel_rfl) (by kernel_rfl) (by kernel_rfl)
  have tT := isTypeOf
  have cT := isComparable
  have mR := isMethodComparable
  go_enter Tryz.func59, Tryz.ntmps59
  go_wp2_with (go_at_call 104; refine (iss_same a _).mono ?_; rintro e w1 ⟨rfl, hw1⟩; subst hw1)
  go_ret
  exact ⟨rfl, rfl⟩
set_option maxHeartbeats 1000000 in
set_option maxRecDepth 100000 in
/-- errors.Is(x, y) at two other errors -/
theorem is_other {a b : Addr} {ca cb : Array Value} {ta tb : TypeId} {w : World} (hne : a ≠ b) (ha : w.heap[a.block]? = some (.cells ca ta (0, 0))) (hb : w.heap[b.block]? = some (.cells cb tb (0, 0))) : Calls Tryz.prog 59 #[ev a, ev b] w fun e w' => e = .returned (.bool false) ∧ w = w' := by
  have h8 := @run_callFunc_extern Tryz.prog 103 _ Extern.ReflectliteType.typeOf Tryz.func103 (by kernel_rfl) (by kernel_rfl) (by kernel_rfl) (by kernel_rfl)
  have h32 := @run_callFunc_extern Tryz.prog 266 _ (Extern.ReflectliteType.method cmpF) Tryz.func266 (by kernel_rfl) (by kernel_rfl) (by kernel_rfl) (by kernel_rfl)
  have tT := isTypeOf
  have cT := isComparable
  have mR := isMethodComparable
  have HN := Lib.hid hne
  have HA := Lib.hid ha
  have HB := Lib.hid hb
  clear hne ha hb
  go_enter Tryz.func59, Tryz.ntmps59
  go_wp2_with (go_at_call 104; refine (iss_other HN.out HA.out HB.out).mono ?_; rintro e w1 ⟨rfl, hw1⟩; subst hw1)
  go_ret
  exact ⟨rfl, rfl⟩

/-- some of the errors -/
structure Sm (S : List Nat) (w : World) (es : List Addr) : Prop where
  len : es.length = 18
  er : ∀ i, i ∈ S → ∀ (t : List UInt8) (g : Nat) (a : Addr), texts[i]? = some t → vars[i]? = some g → es[i]? = some a → Er w g t a
theorem Sm.below {S : List Nat} {w w' : World} {es : List Addr} (h : Sm S w es) (hb : Below w.heap.size w w') : Sm S w' es := ⟨h.len, fun i hi t g a h1 h2 h3 => (h.er i hi t g a h1 h2 h3).below hb⟩
theorem Sm.at {S : List Nat} {w : World} {es : List Addr} (h : Sm S w es) {i : Nat} (hi : i < 18) (hS : i ∈ S) : ∃ t g a, texts[i]? = some t ∧ vars[i]? = some g ∧ es[i]? = some a ∧ Er w g t a := by
  have h1 : i < texts.length := hi
  have h2 : i < vars.length := hi
  have h3 : i < es.length := by rw [h.len]; exact hi
  exact ⟨_, _, _, List.getElem?_eq_getElem h1, List.getElem?_eq_getElem h2, List.getElem?_eq_getElem h3, h.er i hS _ _ _ (List.getElem?_eq_getElem h1) (List.getElem?_eq_getElem h2) (List.getElem?_eq_getElem h3)⟩
theorem _root_.Go.Proofs.YtidflagmdabfaaaGreatDoor.Err.All.sm {S : List Nat} {w : World} {es : List Addr} (h : All w es) : Sm S w es := ⟨h.len, fun i _ t g a h1 h2 h3 => h.er i t g a h1 h2 h3⟩
/-- errors.Is at two errors in their variables -/
theorem is_er {w : World} {g g' : Nat} {t t' : List UInt8} {a b : Addr} (h : Er w g t a) (h' : Er w g' t' b) (hne : t ≠ t') : Calls Tryz.prog 59 #[ev a, ev b] w fun e w' => e = .returned (.bool false) ∧ w = w' := by
  obtain ⟨ca, ta, ha⟩ := h.block
  obtain ⟨cb, tb, hb⟩ := h'.block
  exact is_other (h.ne h' hne) ha hb
end Go.Proofs.YtidflagmdabfaaaGreatDoor.IsE
namespace Go.Proofs.YtidflagmdabfaaaGreatDoor.XmlA
open Go.RowKit Go.Proofs.YtidflagmdabfaaaGreatDoor

set_option maxHeartbeats 400000 in
theorem entity (c : UInt8) (w : World) : Calls Tryz.prog 189 #[.int .u8 c.toNat] w fun e w' => e = .returned (.string ⟨(Xp.ent c).toArray⟩) ∧ w = w' := by
  rcases Xp.ent_cases c with ⟨rfl, e⟩ | ⟨rfl, e⟩ | ⟨rfl, e⟩ | ⟨rfl, e⟩ | ⟨rfl, e⟩ | ⟨h1, h2, h3, h4, h5, e⟩
  all_goals (have E := Lib.hid e; clear e)
  iterate 5
    · go_enter Tryz.func189, Tryz.ntmps189
      go_wp2
      go_ret
      exact ⟨by rw [E.out]; rfl, rfl⟩
  · have g1 : ((c.toNat : Int) == 38) = false := Com.u8_ne h1 rfl
    have g2 : ((c.toNat : Int) == 60) = false := Com.u8_ne h2 rfl
    have g3 : ((c.toNat : Int) == 62) = false := Com.u8_ne h3 rfl
    have g4 : ((c.toNat : Int) == 34) = false := Com.u8_ne h4 rfl
    have g5 : ((c.toNat : Int) == 39) = false := Com.u8_ne h5 rfl
    clear h1 h2 h3 h4 h5
    go_enter Tryz.func189, Tryz.ntmps189
    go_wp2
    go_ret
    exact ⟨by rw [E.out]; rfl, rfl⟩

set_option maxHeartbeats 1000000 in
theorem escape (s : ByteArray) (w : World) (hs : s.size ≤ 4194304) :
    Calls Tryz.prog 159 #[.string s] w fun e w' => e = .returned (.string ⟨(Xp.esc s.data.toList).toArray⟩) ∧ Below w.heap.size w w' := by
  go_enter Tryz.func159, Tryz.ntmps159
  go_wp2
  go_loopw [5, 4, 8] (fun _ _ i wr => ∃ k : Nat, k ≤ s.size ∧ i = .int .i64 k ∧ Lib.IsBuilder 185 5 w.heap.size w.heap.size (Lib.byteCells (Xp.esc (s.data.toList.take k))) wr ∧ Below w.heap.size w wr) (fun _ _ i _ => s.size - (intOf i).toNat)
  case atStart => exact ⟨0, Nat.zero_le _, rfl, Lib.fresh_isBuilder _ _ _, (Below.refl _ w).alloc (Nat.le_refl _) _⟩
  case round =>
    obtain ⟨k, hk, rfl, hI, hb⟩ := hrel
    have hsz := hb.size
    by_cases hlt : k < s.size
    · have hts := Com.take_succ s k hlt
      have HN := Lib.hid (show Xp.esc (s.data.toList.take (k + 1)) = Xp.esc (s.data.toList.take k) ++ Xp.escB s[k] by rw [hts, Xp.esc_snoc])
      have hl : (Xp.esc (s.data.toList.take k)).length ≤ 6 * s.size := by
        have h1 := Xp.esc_len (s.data.toList.take k)
        have h2 : (s.data.toList.take k).length ≤ k := List.length_take_le _ _
        omega
      clear hts
      by_cases he : Xp.ent s[k] = []
      · go_wp2_with (first | (go_at_call 189; refine (entity _ _).mono ?_; rintro e w' ⟨rfl, rfl⟩) | (go_at_call 127; refine (Bld.writeByte _ _ _ _ _ hI (by rw [Com.byteCells_length]; omega) hsz).mono ?_; rintro e w1 ⟨rfl, h1, b1⟩))
        go_roundw
        case rel => exact ⟨k + 1, by omega, by go_num, by rw [HN.out, Xp.escB_plain he, Com.byteCells_snoc]; exact h1, hb.trans b1⟩
        case measure => simp [intOf]; omega
      · have he2 : Xp.escB s[k] = Xp.ent s[k] := Xp.escB_ent he
        have hl2 := (Xp.escB_len s[k]).2
        rw [he2] at hl2
        have HE := Lib.hid he2; clear he2
        generalize hent : Xp.ent s[k] = en at *
        have HENT := Lib.hid hent; clear hent
        have he0 : en.isEmpty = false := by simpa using he
        clear he
        go_wp2_with (first | (go_at_call 189; refine (entity _ _).mono ?_; rintro e w' ⟨rfl, rfl⟩; rw [HENT.out]) | (go_at_call 125; refine (Bld.writeString _ _ _ _ _ hI (by rw [Com.byteCells_length, Com.size_mk]; omega) hsz).mono ?_; rintro e w1 ⟨rfl, h1, b1⟩))
        go_roundw
        case rel => exact ⟨k + 1, by omega, by go_num, by rw [HN.out, HE.out, Com.byteCells_append]; rw [Com.strCells_mk] at h1; exact h1, hb.trans b1⟩
        case measure => simp [intOf]; omega
    · have hk2 : k = s.size := by omega
      have HK := Lib.hid hk2; clear hk2
      go_wp2_with (go_at_call 126; refine (Tryz.Builder_String_any _ _ _ _ hI hsz).mono ?_; rintro e w1 ⟨rfl, b1⟩)
      go_ret
      refine ⟨Com.str_eq rfl ?_, hb.trans b1⟩
      rw [List.take_of_length_le]
      rw [Com.toList_length, HK.out]
      exact Nat.le_refl _
end Go.Proofs.YtidflagmdabfaaaGreatDoor.XmlA
namespace Go.Proofs.YtidflagmdabfaaaGreatDoor.XmlB
open Go.RowKit Go.Proofs.YtidflagmdabfaaaGreatDoor

set_option maxHeartbeats 1000000 in
theorem refEscape (s : ByteArray) (w : World) (hs : s.size ≤ 4194304) :
    Calls Tryz.prog 112 #[.string s] w fun e w' => e = .returned (.string ⟨(Xp.esc s.data.toList).toArray⟩) ∧ w = w' := by
  go_enter Tryz.func112, Tryz.ntmps112
  go_wp2
  go_loop [3, 4] (fun o i => ∃ k : Nat, k ≤ s.size ∧ i = .int .i64 k ∧ o = .string ⟨(Xp.esc (s.data.toList.take k)).toArray⟩) (fun _ i => s.size - (intOf i).toNat)
  case atStart => exact ⟨0, Nat.zero_le _, rfl, rfl⟩
  case round =>
    obtain ⟨k, hk, rfl, rfl⟩ := hrel
    by_cases hlt : k < s.size
    · have hts := Com.take_succ s k hlt
      have HN := Lib.hid (show Xp.esc (s.data.toList.take (k + 1)) = Xp.esc (s.data.toList.take k) ++ Xp.escB s[k] by rw [hts, Xp.esc_snoc])
      have hl : (Xp.esc (s.data.toList.take k)).length ≤ 6 * s.size := by
        have h1 := Xp.esc_len (s.data.toList.take k)
        have h2 : (s.data.toList.take k).length ≤ k := List.length_take_le _ _
        omega
      clear hts
      rcases Xp.ent_cases s[k] with ⟨h, e⟩ | ⟨h, e⟩ | ⟨h, e⟩ | ⟨h, e⟩ | ⟨h, e⟩ | ⟨h1, h2, h3, h4, h5, e⟩
      iterate 5
        · have HE := Lib.hid (show Xp.escB s[k] = _ from (Xp.escB_ent (by rw [e]; simp)).trans e)
          clear e
          go_wp2
          go_round
          case rel => exact ⟨k + 1, by omega, by go_num, Com.cat (by rw [HN.out, HE.out])⟩
          case measure => simp [intOf]; omega
      · have HE := Lib.hid (Xp.escB_plain e)
        clear e
        have g1 : ((s[k].toNat : Int) == 38) = false := Com.u8_ne h1 rfl
        have g2 : ((s[k].toNat : Int) == 60) = false := Com.u8_ne h2 rfl
        have g3 : ((s[k].toNat : Int) == 62) = false := Com.u8_ne h3 rfl
        have g4 : ((s[k].toNat : Int) == 34) = false := Com.u8_ne h4 rfl
        have g5 : ((s[k].toNat : Int) == 39) = false := Com.u8_ne h5 rfl
        clear h1 h2 h3 h4 h5
        go_wp2
        go_round
        case rel => exact ⟨k + 1, by omega, by go_num, by rw [Com.extract_one s k hlt]; exact Com.cat (by rw [HN.out, HE.out])⟩
        case measure => simp [intOf]; omega
    · have HK := Lib.hid (show k = s.size by omega)
      go_wp2
      go_ret
      exact ⟨Com.str_eq rfl (by rw [Com.take_all s k HK.out]), rfl⟩

theorem tagv (name s : ByteArray) : (((((⟨#[60]⟩ ++ name) ++ ⟨#[62]⟩) ++ s) ++ ⟨#[60, 47]⟩) ++ name) ++ ⟨#[62]⟩ = (⟨(Xp.tag name.data.toList s.data.toList).toArray⟩ : ByteArray) := by
  cases name; cases s
  rename_i a b
  obtain ⟨a⟩ := a
  obtain ⟨b⟩ := b
  show _ = (⟨(Xp.tag a b).toArray⟩ : ByteArray)
  unfold Xp.tag
  simp only [← Com.mk_append]

set_option maxHeartbeats 1000000 in
theorem refTagS (name s : ByteArray) (w : World) (hs : name.size ≤ 140737488355328) (hs : s.size ≤ 35184372088832) :
    Calls Tryz.prog 111 #[.string name, .string s] w fun e w' => e = .returned (.string ⟨(Xp.tag name.data.toList s.data.toList).toArray⟩) ∧ w = w' := by
  go_enter Tryz.func111, Tryz.ntmps111
  go_wp2
  go_ret
  exact ⟨congrArg (fun x => Ending.returned (.string x)) (tagv name s), rfl⟩

theorem tagv_size (name s : List UInt8) : (Xp.tag name s).length = 2 * name.length + s.length + 5 := by simp [Xp.tag]; omega

end Go.Proofs.YtidflagmdabfaaaGreatDoor.XmlB
namespace Go.Proofs.YtidflagmdabfaaaGreatDoor.XmlC
open Go.RowKit Go.Proofs.YtidflagmdabfaaaGreatDoor

set_option maxHeartbeats 1000000 in
theorem tag (name : ByteArray) (a : Option Addr) (c : Nat) (xs : List ByteArray) (w : World) (hn : name.size ≤ 140737488355328) (hx : (Com.flat xs).length ≤ 35184372088832) (hm : xs.length ≤ 35184372088832) (hc : xs.length ≤ c) (hs : Com.Strs w a xs) :
    Calls Tryz.prog 109 #[.string name, .slice a xs.length c] w fun e w' => e = .returned (.string ⟨(Xp.tag name.data.toList (Com.flat xs)).toArray⟩) ∧ Below w.heap.size w w' := by
  have join : Calls Tryz.prog 71 #[.slice a xs.length c, .string ⟨#[]⟩] w fun e w' => e = .returned (.string ⟨(Com.flat xs).toArray⟩) ∧ Below w.heap.size w w' := by
    rcases hs with rfl | ⟨b, o, rfl, hb, hcell⟩
    · refine (Tryz.strings_Join_none a c _ w).mono ?_
      rintro e w' ⟨rfl, rfl⟩
      exact ⟨rfl, Below.refl _ _⟩
    · have he : Lib.join (xs.map (·.data.toList)) (ByteArray.mk #[]).data.toList = Com.flat xs := Com.intercalate_nil _
      refine (Tryz.strings_Join b o c xs _ w hcell hb (by omega) hc (by rw [he]; omega)).mono ?_
      rintro e w' ⟨rfl, hb⟩
      exact ⟨by rw [he], hb⟩
  have J := Lib.hid join; clear join
  go_enter Tryz.func109, Tryz.ntmps109
  go_wp2_with (go_at_call 71; refine J.out.mono ?_; rintro e w' ⟨rfl, hb⟩)
  go_ret
  exact ⟨congrArg (fun x => Ending.returned (.string x)) (XmlB.tagv name ⟨(Com.flat xs).toArray⟩), hb⟩

theorem strs_new (w : World) (x : ByteArray) (t : TypeId) : Com.Strs (w.alloc (.cells #[.string x] t)) (some ⟨w.heap.size, 0, none⟩) [x] := by
  refine .inr ⟨_, _, rfl, by simp, fun j y hy => ?_⟩
  match j, hy with
  | 0, hy => simp at hy; subst hy; simp

set_option maxHeartbeats 1000000 in
theorem text (name s : ByteArray) (w : World) (hn : name.size ≤ 4194304) (hs : s.size ≤ 4194304) :
    Calls Tryz.prog 107 #[.string name, .string s] w fun e w' => e = .returned (.string ⟨(Xp.tag name.data.toList (Xp.esc s.data.toList)).toArray⟩) ∧ Below w.heap.size w w' := by
  have hl := Xp.esc_len s.data.toList
  rw [Com.toList_length] at hl
  go_enter Tryz.func107, Tryz.ntmps107
  go_wp2_with (go_at_call 159; refine (XmlA.escape s _ hs).mono ?_; rintro e w1 ⟨rfl, hb1⟩)
  refine (tag name _ 1 [⟨(Xp.esc s.data.toList).toArray⟩] _ (by omega) (by rw [Com.flat_one]; simp; omega) (by simp) (by simp) (strs_new _ _ _)).mono ?_
  rintro e w2 ⟨rfl, hb2⟩
  go_wp2
  go_ret
  exact ⟨Com.str_eq rfl (by rw [Com.flat_one]), hb1.trans (((Below.refl _ _).alloc hb1.size _).trans (hb2.mono (by have := hb1.size; simp; omega)))⟩

set_option maxHeartbeats 1000000 in
theorem error (s : ByteArray) (w : World) (hs : s.size ≤ 4194304) :
    Calls Tryz.prog 105 #[.string s] w fun e w' => e = .returned (.string ⟨(Xp.docError s.data.toList).toArray⟩) ∧ Below w.heap.size w w' := by
  have hl := Xp.esc_len s.data.toList
  rw [Com.toList_length] at hl
  have hl2 := Xp.tag_len [67, 111, 100, 101] (Xp.esc s.data.toList)
  simp only [List.length_cons, List.length_nil] at hl2
  have hl3 : (Xp.tag [67, 111, 100, 101] (Xp.esc s.data.toList)).length ≤ 35184372088832 := by omega
  have hl4 := Xp.tag_len [69, 114, 114, 111, 114] (Xp.tag [67, 111, 100, 101] (Xp.esc s.data.toList))
  simp only [List.length_cons, List.length_nil] at hl4
  have hl5 : (Xp.tag [69, 114, 114, 111, 114] (Xp.tag [67, 111, 100, 101] (Xp.esc s.data.toList))).length ≤ 35184372088832 := by omega
  clear hl2 hl4
  go_enter Tryz.func105, Tryz.ntmps105
  go_wp2_with (go_at_call 107; refine (text _ s _ (by simp [Com.size_mk]) hs).mono ?_; rintro e w1 ⟨rfl, hb1⟩)
  refine (tag _ _ 1 [⟨(Xp.tag [67, 111, 100, 101] (Xp.esc s.data.toList)).toArray⟩] _ (by simp [Com.size_mk]) (by rw [Com.flat_one]; simp; omega) (by simp) (by simp) (strs_new _ _ _)).mono ?_
  rintro e w2 ⟨rfl, hb2⟩
  rw [Com.flat_one]
  go_wp2
  go_ret
  refine ⟨congrArg Ending.returned (Com.cat (a := Xp.top) (by rfl)), hb1.trans (((Below.refl _ _).alloc hb1.size _).trans (hb2.mono (by have := hb1.size; simp; omega)))⟩

end Go.Proofs.YtidflagmdabfaaaGreatDoor.XmlC
namespace Go.Proofs.YtidflagmdabfaaaGreatDoor.RtA
open Go.RowKit Go.Proofs.YtidflagmdabfaaaGreatDoor Go.Proofs.YtidflagmdabfaaaGreatDoor.HtW

/-- an answer's box -/
def Rb (B : Nat) (w : World) (a b c : Value) : Prop := w.heap[B]? = some (.cells #[a, b, c] 56 (0, 0))
theorem Rb.below {B : Nat} {w w' : World} {a b c : Value} (h : Rb B w a b c) (hb : Below w.heap.size w w') : Rb B w' a b c := (hb.block _ (Array.getElem?_eq_some_iff.1 h).1).trans h
theorem Rb.lt {B : Nat} {w : World} {a b c : Value} (h : Rb B w a b c) : B < w.heap.size := (Array.getElem?_eq_some_iff.1 h).1
theorem Rb.cells {B : Nat} {w : World} {a b c : Value} (h : Rb B w a b c) : w.cell? ⟨B, 0, none⟩ = some a ∧ w.cell? ⟨B, 1, none⟩ = some b ∧ w.cell? ⟨B, 2, none⟩ = some c ∧ w.frozen? ⟨B, 0, none⟩ = false ∧ w.frozen? ⟨B, 1, none⟩ = false ∧ w.frozen? ⟨B, 2, none⟩ = false := by
  unfold Rb at h
  refine ⟨?_, ?_, ?_, Lib.frozen_of_heap h 0, Lib.frozen_of_heap h 1, Lib.frozen_of_heap h 2⟩
  all_goals (rw [Lib.cell_of_heap h]; rfl)
abbrev st3 (w : World) (B : Nat) (a b c : Value) : World := ((w.setCell ⟨B, 0, none⟩ a).setCell ⟨B, 1, none⟩ b).setCell ⟨B, 2, none⟩ c
theorem Rb.put {B : Nat} {w : World} {u0 u1 u2 : Value} (h : Rb B w u0 u1 u2) (a b c : Value) : Rb B (st3 w B a b c) a b c := by
  unfold Rb at h ⊢
  simp only [st3, World.setCell, Array.getElem?_modify, if_true, h]; rfl
theorem below_st3 {b B : Nat} {w w' : World} (h : Below b w w') (hB : b ≤ B) (x y z : Value) : Below b w (st3 w' B x y z) :=
  ((h.setCell (p := ⟨B, 0, none⟩) hB _).setCell (p := ⟨B, 1, none⟩) hB _).setCell (p := ⟨B, 2, none⟩) hB _
theorem Rb.run (k : Nat) {B : Nat} {w : World} {a b c : Value} (h : Rb B w a b c) {fn : Func} (e : fn.results = #[.cell k 56]) {tmps : Array Value} (h2 : tmps.getD k undef = .pointer (some ⟨B, 0, none⟩)) :
    (results fn tmps).run Tryz.prog w = .ok (.agg #[a, b, c]) w :=
  results_cell_row e tmps w B 56 _ _ _ h2 h Tryz.underlying56 rfl (by kernel_rfl)
/-- a body lies apart from the box that is stored -/
theorem bs_far {w : World} {B : Nat} {a : Option Addr} {l : List UInt8} {c : Nat} (h : Bs w a l c) (hB : ∀ p, a = some p → p.block ≠ B) (x y z : Value) : Bs (st3 w B x y z) a l c := by
  refine ⟨h.1, h.2.1, h.2.2.imp id fun ⟨b, o, h1, h2, h3⟩ => ⟨b, o, h1, by simpa [st3] using h2, fun j v hj => ?_⟩⟩
  have hn : b ≠ B := hB _ h1
  have e : (st3 w B x y z).cell? ⟨b, o + j, none⟩ = w.cell? ⟨b, o + j, none⟩ := by
    refine World.cell?_of_block ?_
    show (st3 w B x y z).heap[b]? = w.heap[b]?
    unfold st3
    rw [Below.heap_setCell _ _ _ _ (fun h => hn h), Below.heap_setCell _ _ _ _ (fun h => hn h), Below.heap_setCell _ _ _ _ (fun h => hn h)]
  rw [e]
  exact h3 j v hj
/-- an answer with a body and no fields -/
def FPost (st : Int) (d : List UInt8) (base : Nat) (w' : World) (e : Ending) : Prop := ∃ a c, e = .returned (.agg #[.int .i64 st, .slice none 0 0, .slice a d.length c]) ∧ Bs w' a d c ∧ ∀ p, a = some p → base ≤ p.block

set_option maxHeartbeats 4000000 in
set_option maxRecDepth 100000 in
theorem failed (st : Int) (cd : ByteArray) (w : World) (hs : cd.size ≤ 1048576) :
    Calls Tryz.prog 60 #[.int .i64 st, .string cd] w fun e w' => FPost st (Xp.docError cd.data.toList) w.heap.size w' e ∧ Below w.heap.size w w' := by
  have kc := fun w s => Lib.run_convert_string_bytes (P := Tryz.prog) w 9 23 5 s Tryz.underlying9 Tryz.underlying23 Tryz.underlying5
  have hb0 := (Below.refl w.heap.size w).alloc (Nat.le_refl _) (.cells #[.int .i64 0, .slice none 0 0, .slice none 0 0] 56)
  have hR0 : Rb w.heap.size (w.alloc (.cells #[.int .i64 0, .slice none 0 0, .slice none 0 0] 56)) _ _ _ := heap_alloc_new w _
  have KE := Lib.hid (XmlC.error cd (w.alloc (.cells #[.int .i64 0, .slice none 0 0, .slice none 0 0] 56)) (by omega))
  go_enter Tryz.func60, Tryz.ntmps60
  go_wp2_with fail
  refine KE.out.mono ?_
  rintro e w1 ⟨rfl, hb1⟩
  obtain ⟨d, hd⟩ : ∃ d, d = Xp.docError cd.data.toList := ⟨_, rfl⟩
  have HD := Lib.hid hd
  rw [← hd]
  clear hd KE
  have hB1 := hb0.trans (hb1.mono hb0.size)
  have hxc := ShaJ.conv_bs w1 d
  have hxb := Lib.bytesWorld_below w1 5 ⟨d.toArray⟩
  have hB2 := hB1.trans (hxb.mono hB1.size)
  have hR2 := (hR0.below hb1).below hxb
  obtain ⟨x0, x1, x2, f0, f1, f2⟩ := hR2.cells
  go_wp2_with fail
  have hlt : w.heap.size < w1.heap.size := by have := hb1.size; rw [World.size_alloc] at this; omega
  refine bodyPost_ret (Rb.run 4 (hR2.put _ _ _) rfl rfl) rfl ⟨?_, below_st3 hB2 (Nat.le_refl _) _ _ _⟩
  rw [← HD.out]
  exact ⟨_, _, rfl, bs_far hxc (by rintro p hp; cases hp; simp; omega) _ _ _, by rintro p hp; cases hp; simp; omega⟩
end Go.Proofs.YtidflagmdabfaaaGreatDoor.RtA
namespace Go.Proofs.YtidflagmdabfaaaGreatDoor.RtG
open Go.RowKit Go.Proofs.YtidflagmdabfaaaGreatDoor Go.Proofs.YtidflagmdabfaaaGreatDoor.HtW Go.Proofs.YtidflagmdabfaaaGreatDoor.RtA Go.Proofs.YtidflagmdabfaaaGreatDoor.Itoa

abbrev nEtag : List UInt8 := [101, 116, 97, 103]
abbrev nTime : List UInt8 := [120, 45, 116, 105, 109, 101]
abbrev nRange : List UInt8 := [99, 111, 110, 116, 101, 110, 116, 45, 114, 97, 110, 103, 101]
/-- an object's fields -/
def ofs (et : List UInt8) (tm : Int) : List (List UInt8 × List UInt8) := [(nEtag, et), (nTime, Lib.itoa tm)]
/-- an object's box -/
def Ob (B : Nat) (w : World) (a b c d e : Value) : Prop := w.heap[B]? = some (.cells #[a, b, c, d, e] 54 (0, 0))
theorem Ob.below {B : Nat} {w w' : World} {a b c d e : Value} (h : Ob B w a b c d e) (hb : Below w.heap.size w w') : Ob B w' a b c d e := (hb.block _ (Array.getElem?_eq_some_iff.1 h).1).trans h
theorem Ob.cells {B : Nat} {w : World} {a b c d e : Value} (h : Ob B w a b c d e) : w.cell? ⟨B, 0, none⟩ = some a ∧ w.cell? ⟨B, 1, none⟩ = some b ∧ w.cell? ⟨B, 2, none⟩ = some c ∧ w.cell? ⟨B, 3, none⟩ = some d ∧ w.cell? ⟨B, 4, none⟩ = some e := by
  unfold Ob at h
  refine ⟨?_, ?_, ?_, ?_, ?_⟩
  all_goals (rw [Lib.cell_of_heap h]; rfl)
theorem four_own (w : World) (a b c d : List UInt8) : (w.alloc (.cells #[.string ⟨a.toArray⟩, .string ⟨b.toArray⟩, .string ⟨c.toArray⟩, .string ⟨d.toArray⟩] 91)).ownsRow w.heap.size 91 2 (.slice (some ⟨w.heap.size, 0, none⟩) 2 2) 2 (fcells [(a, b), (c, d)]) :=
  ⟨rfl, .inr ⟨w.heap.size, 2, _, rfl, Nat.le_refl _, heap_alloc_new _ _, Nat.le_refl _, by unfold maxLen; omega, rfl, rfl⟩⟩
theorem own_down {w : World} {b b' : Nat} {e : TypeId} {s n : Nat} {v : Value} {xs : List Value} (h : w.ownsRow b e s v n xs) (hb : b' ≤ b) : w.ownsRow b' e s v n xs :=
  ⟨h.1, h.2.imp id fun ⟨g, cap, cur, h1, h2, h3⟩ => ⟨g, cap, cur, h1, Nat.le_trans hb h2, h3⟩⟩

set_option maxHeartbeats 4000000 in
set_option maxRecDepth 100000 in
theorem fields (kv _sv _pv : ByteArray) (sz tm : Int) (et : List UInt8) (pa : Option Addr) (pl pc : Nat) (w : World) (hT : Tab w) (t0 : -9223372036854775808 ≤ tm) (t1 : tm ≤ 9223372036854775807) :
    Calls Tryz.prog 55 #[.agg #[.string kv, .int .i64 sz, .string ⟨et.toArray⟩, .int .i64 tm, .slice pa pl pc]] w fun e w' => ∃ a, e = .returned (.slice a 2 2) ∧ w'.ownsRow w.heap.size 91 2 (.slice a 2 2) 2 (fcells (ofs et tm)) ∧ Below w.heap.size w w' := by
  have hb0 := (Below.refl w.heap.size w).alloc (Nat.le_refl _) (.cells #[.string kv, .int .i64 sz, .string ⟨et.toArray⟩, .int .i64 tm, .slice pa pl pc] 54)
  have hO : Ob w.heap.size (w.alloc (.cells #[.string kv, .int .i64 sz, .string ⟨et.toArray⟩, .int .i64 tm, .slice pa pl pc] 54)) _ _ _ _ _ := heap_alloc_new w _
  have hz : w.heap.size < (w.alloc (.cells #[.string kv, .int .i64 sz, .string ⟨et.toArray⟩, .int .i64 tm, .slice pa pl pc] 54)).heap.size := by simp
  go_enter Tryz.func55, Tryz.ntmps55
  go_upto_region 1 with fail
  generalize w.alloc _ = w1 at *
  have HT := Lib.hid (hT.below hb0)
  obtain ⟨N, hN⟩ : ∃ N, N = w.heap.size := ⟨_, rfl⟩
  rw [← hN] at hO hb0 hz ⊢
  have HN := Lib.hid hN
  clear hN hT
  obtain ⟨x0, x1, x2, x3, x4⟩ := hO.cells
  have HB := Lib.hid hb0
  clear hb0 hO x0 x1 x4
  have KI := Lib.hid (show ∀ W, ((W.cell? ⟨N, 2, none⟩ = some (.string ⟨et.toArray⟩) ∧ W.cell? ⟨N, 3, none⟩ = some (.int .i64 tm)) ∧ Below w1.heap.size w1 W) → Calls Tryz.prog 56 #[.int .i64 tm] W fun e w' => e = .returned (.string ⟨(Lib.itoa tm).toArray⟩) ∧ ((w'.cell? ⟨N, 2, none⟩ = some (.string ⟨et.toArray⟩) ∧ w'.cell? ⟨N, 3, none⟩ = some (.int .i64 tm)) ∧ Below w1.heap.size w1 w') from fun W hW => (itoa tm t0 t1 W (HT.out.below hW.2)).mono fun e w' ⟨h1, h2⟩ =>
    ⟨h1, ⟨(h2.cell (World.block_lt_of_cell? _ _ hW.1.1)).trans hW.1.1, (h2.cell (World.block_lt_of_cell? _ _ hW.1.2)).trans hW.1.2⟩, hW.2.trans (h2.mono hW.2.size)⟩)
  go_region_held3 (fun W => (W.cell? ⟨N, 2, none⟩ = some (.string ⟨et.toArray⟩) ∧ W.cell? ⟨N, 3, none⟩ = some (.int .i64 tm)) ∧ Below w1.heap.size w1 W)
    (first | exact ⟨⟨x2, x3⟩, (Below.refl _ _).drew⟩ | assumption | exact ⟨⟨(((Below.refl _ _).alloc (Nat.le_refl _) _).cell (World.block_lt_of_cell? _ _ hS2.1.1)).trans hS2.1.1, (((Below.refl _ _).alloc (Nat.le_refl _) _).cell (World.block_lt_of_cell? _ _ hS2.1.2)).trans hS2.1.2⟩, hS2.2.alloc hS2.2.size _⟩ | go_keep)
    (first
      | (go_at_call 56; refine (KI.out _ (by assumption)).mono ?_; rintro e w2 ⟨rfl, hS2⟩))
  all_goals
    go_wp2_with fail
    go_ret
    refine ⟨_, rfl, ?_, ?_⟩
    · rw [← HN.out]
      exact own_down (four_own w2 nEtag et nTime (Lib.itoa tm)) (by have := hS2.2.size; omega)
    · rw [← HN.out]
      exact (HB.out.trans (hS2.2.mono (by omega))).alloc (by have := hS2.2.size; omega) _
end Go.Proofs.YtidflagmdabfaaaGreatDoor.RtG
