/-
  errors.Is over the errors of errors.New's make (turned from the worked proof Sentry). The walks of package xml's entity, Escape, and of the reference's Escape. The walks of the reference's Escape and tag. The walks of package xml's Tag, Text, Error and of the law's alive. Answers in memory; the walks of package route's failed and Refuse. Append of fields onto fields; the walk of the laws' copied.
-/
import Derived.Test.YtidflagmdabfaaaGreatDoorSg01
import Derived.Test.YtidflagmdabfaaaGreatDoorSg04
import Derived.Test.YtidflagmdabfaaaGreatDoorSg07
import Derived.Test.YtidflagmdabfaaaGreatDoorSg08
import Derived.Test.YtidflagmdabfaaaGreatDoorSg09
import Derived.Test.YtidflagmdabfaaaGreatDoorSg16
import Derived.Test.YtidflagmdabfaaaGreatDoorSg22
import Derived.Stop.Asserts
import Derived.RowKitTokens
import Derived.WalkKit
import Derived.Outline
import Derived.Lib.Hide
import Derived.WalkSpells
import Derived.WalkLawsBesides
namespace Go.Proofs.YtidflagmdabfaaaGreatDoor.IsE
open Go.RowKit Go.Extern.Stop Go.Stop Go.Extern Go.Proofs.YtidflagmdabfaaaGreatDoor Go.Proofs.YtidflagmdabfaaaGreatDoor.Err

theorem isTypeOf (v : Value) (w : World) : (Extern.ReflectliteType.typeOf #[.iface 288 v]).run Tryz.prog w = .ok (.iface 205 (.agg #[.pointer (some ⟨26, 288, none⟩)])) w := by kernel_rfl
def cmpF : TypeId → Sem Value := fun t => do Go.Extern.Rtype.noPackHeld "Comparable" t; pure (.bool (← typeInfo t).comparable)
theorem isComparable (w : World) : ((Extern.ReflectliteType.method cmpF) #[.agg #[.pointer (some ⟨26, 288, none⟩)]]).run Tryz.prog w = .ok (.bool true) w := by kernel_rfl
theorem isMethodComparable (v : Value) (w : World) : (Go.method 424 205 v "Comparable").run Tryz.prog w = .ok (266, v) w := by kernel_rfl
theorem noIsE (v : Value) (xT : TypeId) (w : World) : (Instr.typeAssert (.iface 288 v) xT 207 true).run Tryz.prog w = .ok (.tuple #[.nilIface, .bool false]) w := run_typeAssert_lacksB Tryz.underlying207 (by kernel_rfl) (by kernel_rfl) v xT w
theorem noUnwrapE (v : Value) (xT : TypeId) (w : World) : (Instr.typeAssert (.iface 288 v) xT 210 true).run Tryz.prog w = .ok (.tuple #[.nilIface, .bool false]) w := run_typeAssert_lacksB Tryz.underlying210 (by kernel_rfl) (by kernel_rfl) v xT w
theorem noUnwrapsE (v : Value) (xT : TypeId) (w : World) : (Instr.typeAssert (.iface 288 v) xT 211 true).run Tryz.prog w = .ok (.tuple #[.nilIface, .bool false]) w := run_typeAssert_lacksB Tryz.underlying211 (by kernel_rfl) (by kernel_rfl) v xT w

/-- errors.Is(nil, x) -/
theorem is_nil (b : Addr) (w : World) : Calls Tryz.prog 59 #[.nilIface, ev b] w fun e w' => e = .returned (.bool false) ∧ w = w' := by
  have hn := run_eql_iface_nil_left (P := Tryz.prog) w 288 (.pointer (some b)) Tryz.underlying39
  go_enter Tryz.func59, Tryz.ntmps59
  go_wp2
  go_ret
  exact ⟨rfl, rfl⟩
/-- errors.is(x, x) -/
theorem iss_same (a : Addr) (w : World) : Calls Tryz.prog 104 #[ev a, ev a, .bool true] w fun e w' => e = .returned (.bool true) ∧ w = w' := by
  have heq := eqErr a w
  go_enter Tryz.func104, Tryz.ntmps104
  go_wp2
  refine wp_loop_rounds 1 ?_
  rw [rounds_succ]
  go_wp2
  go_ret
  exact ⟨rfl, rfl⟩
/-- errors.is(x, y) at two other errors -/
theorem iss_other {a b : Addr} {ca cb : Array Value} {ta tb : TypeId} {w : World} (hne : a ≠ b) (ha : w.heap[a.block]? = some (.cells ca ta (0, 0))) (hb : w.heap[b.block]? = some (.cells cb tb (0, 0))) : Calls Tryz.prog 104 #[ev a, ev b, .bool true] w fun e w' => e = .returned (.bool false) ∧ w = w' := by
  have heq := neErr hne ha hb
  have nE := noIsE
  have uE := noUnwrapE
  have vE := noUnwrapsE
  go_enter Tryz.func104, Tryz.ntmps104
  go_wp2
  refine wp_loop_rounds 1 ?_
  rw [rounds_succ]
  go_wp2
  go_ret
  exact ⟨rfl, rfl⟩
set_option maxHeartbeats 1000000 in
set_option maxRecDepth 100000 in
/-- errors.Is(x, x) -/
theorem is_same (a : Addr) (w : World) : Calls Tryz.prog 59 #[ev a, ev a] w fun e w' => e = .returned (.bool true) ∧ w = w' := by
  have h8 := @run_callFunc_extern Tryz.prog 103 _ Extern.ReflectliteType.typeOf Tryz.func103 (by kernel_rfl) (by kernel_rfl) (by kernel_rfl) (by kernel_rfl)
  have h32 := @run_callFunc_extern Tryz.prog 266 _ (Extern.ReflectliteType.method cmpF) Tryz.func266 (by kernel_rfl) (by kernel_rfl) (by kernel_rfl) (by kernel_rfl)
  have tT := isTypeOf
  have cT := isComparable
  have mR := isMethodComparable
  go_enter Tryz.func59, Tryz.ntmps59
  go_wp2_with (go_at_call 104; refine (iss_same a _).mono ?_; rintro e w1 ⟨rfl, hw1⟩; subst hw1)
  go_ret
  exact ⟨rfl, rfl⟩
set_option maxHeartbeats 1000000 in
set_option maxRecDepth 100000 in
/-- errors.Is(x, y) at two other errors -/
theorem is_other {a b : Addr} {ca cb : Array Value} {ta tb : TypeId} {w : World} (hne : a ≠ b) (ha : w.heap[a.block]? = some (.cells ca ta (0, 0))) (hb : w.heap[b.block]? = some (.cells cb tb (0, 0))) : Calls Tryz.prog 59 #[ev a, ev b] w fun e w' => e = .returned (.bool false) ∧ w = w' := by
  have h8 := @run_callFunc_extern Tryz.prog 103 _ Extern.ReflectliteType.typeOf Tryz.func103 (by kernel_rfl) (by kernel_rfl) (by kernel_rfl) (by kernel_rfl)
  have h32 := @run_callFunc_extern Tryz.prog 266 _ (Extern.ReflectliteType.method cmpF) Tryz.func266 (by kernel_rfl) (by kernel_rfl) (by kernel_rfl) (by kernel_rfl)
  have tT := isTypeOf
  have cT := isComparable
  have mR := isMethodComparable
  have HN := Lib.hid hne
  have HA := Lib.hid ha
  have HB := Lib.hid hb
  clear hne ha hb
  go_enter Tryz.func59, Tryz.ntmps59
  go_wp2_with (go_at_call 104; refine (iss_other HN.out HA.out HB.out).mono ?_; rintro e w1 ⟨rfl, hw1⟩; subst hw1)
  go_ret
  exact ⟨rfl, rfl⟩

/-- some of the errors -/
structure Sm (S : List Nat) (w : World) (es : List Addr) : Prop where
  len : es.length = 18
  er : ∀ i, i ∈ S → ∀ (t : List UInt8) (g : Nat) (a : Addr), texts[i]? = some t → vars[i]? = some g → es[i]? = some a → Er w g t a
theorem Sm.below {S : List Nat} {w w' : World} {es : List Addr} (h : Sm S w es) (hb : Below w.heap.size w w') : Sm S w' es := ⟨h.len, fun i hi t g a h1 h2 h3 => (h.er i hi t g a h1 h2 h3).below hb⟩
theorem Sm.at {S : List Nat} {w : World} {es : List Addr} (h : Sm S w es) {i : Nat} (hi : i < 18) (hS : i ∈ S) : ∃ t g a, texts[i]? = some t ∧ vars[i]? = some g ∧ es[i]? = some a ∧ Er w g t a := by
  have h1 : i < texts.length := hi
  have h2 : i < vars.length := hi
  have h3 : i < es.length := by rw [h.len]; exact hi
  exact ⟨_, _, _, List.getElem?_eq_getElem h1, List.getElem?_eq_getElem h2, List.getElem?_eq_getElem h3, h.er i hS _ _ _ (List.getElem?_eq_getElem h1) (List.getElem?_eq_getElem h2) (List.getElem?_eq_getElem h3)⟩
theorem _root_.Go.Proofs.YtidflagmdabfaaaGreatDoor.Err.All.sm {S : List Nat} {w : World} {es : List Addr} (h : All w es) : Sm S w es := ⟨h.len, fun i _ t g a h1 h2 h3 => h.er i t g a h1 h2 h3⟩
/-- errors.Is at two errors in their variables -/
theorem is_er {w : World} {g g' : Nat} {t t' : List UInt8} {a b : Addr} (h : Er w g t a) (h' : Er w g' t' b) (hne : t ≠ t') : Calls Tryz.prog 59 #[ev a, ev b] w fun e w' => e = .returned (.bool false) ∧ w = w' := by
  obtain ⟨ca, ta, ha⟩ := h.block
  obtain ⟨cb, tb, hb⟩ := h'.block
  exact is_other (h.ne h' hne) ha hb
end Go.Proofs.YtidflagmdabfaaaGreatDoor.IsE
namespace Go.Proofs.YtidflagmdabfaaaGreatDoor.XmlA
open Go.RowKit Go.Proofs.YtidflagmdabfaaaGreatDoor

set_option maxHeartbeats 400000 in
theorem entity (c : UInt8) (w : World) : Calls Tryz.prog 189 #[.int .u8 c.toNat] w fun e w' => e = .returned (.string ⟨(Xp.ent c).toArray⟩) ∧ w = w' := by
  rcases Xp.ent_cases c with ⟨rfl, e⟩ | ⟨rfl, e⟩ | ⟨rfl, e⟩ | ⟨rfl, e⟩ | ⟨rfl, e⟩ | ⟨h1, h2, h3, h4, h5, e⟩
  all_goals (have E := Lib.hid e; clear e)
  iterate 5
    · go_enter Tryz.func189, Tryz.ntmps189
      go_wp2
      go_ret
      exact ⟨by rw [E.out]; rfl, rfl⟩
  · have g1 : ((c.toNat : Int) == 38) = false := Com.u8_ne h1 rfl
    have g2 : ((c.toNat : Int) == 60) = false := Com.u8_ne h2 rfl
    have g3 : ((c.toNat : Int) == 62) = false := Com.u8_ne h3 rfl
    have g4 : ((c.toNat : Int) == 34) = false := Com.u8_ne h4 rfl
    have g5 : ((c.toNat : Int) == 39) = false := Com.u8_ne h5 rfl
    clear h1 h2 h3 h4 h5
    go_enter Tryz.func189, Tryz.ntmps189
    go_wp2
    go_ret
    exact ⟨by rw [E.out]; rfl, rfl⟩

set_option maxHeartbeats 1000000 in
theorem escape (s : ByteArray) (w : World) (hs : s.size ≤ 4194304) :
    Calls Tryz.prog 159 #[.string s] w fun e w' => e = .returned (.string ⟨(Xp.esc s.data.toList).toArray⟩) ∧ Below w.heap.size w w' := by
  go_enter Tryz.func159, Tryz.ntmps159
  go_wp2
  go_loopw [5, 4, 8] (fun _ _ i wr => ∃ k : Nat, k ≤ s.size ∧ i = .int .i64 k ∧ Lib.IsBuilder 185 5 w.heap.size w.heap.size (Lib.byteCells (Xp.esc (s.data.toList.take k))) wr ∧ Below w.heap.size w wr) (fun _ _ i _ => s.size - (intOf i).toNat)
  case atStart => exact ⟨0, Nat.zero_le _, rfl, Lib.fresh_isBuilder _ _ _, (Below.refl _ w).alloc (Nat.le_refl _) _⟩
  case round =>
    obtain ⟨k, hk, rfl, hI, hb⟩ := hrel
    have hsz := hb.size
    by_cases hlt : k < s.size
    · have hts := Com.take_succ s k hlt
      have HN := Lib.hid (show Xp.esc (s.data.toList.take (k + 1)) = Xp.esc (s.data.toList.take k) ++ Xp.escB s[k] by rw [hts, Xp.esc_snoc])
      have hl : (Xp.esc (s.data.toList.take k)).length ≤ 6 * s.size := by
        have h1 := Xp.esc_len (s.data.toList.take k)
        have h2 : (s.data.toList.take k).length ≤ k := List.length_take_le _ _
        omega
      clear hts
      by_cases he : Xp.ent s[k] = []
      · go_wp2_with (first | (go_at_call 189; refine (entity _ _).mono ?_; rintro e w' ⟨rfl, rfl⟩) | (go_at_call 127; refine (Bld.writeByte _ _ _ _ _ hI (by rw [Com.byteCells_length]; omega) hsz).mono ?_; rintro e w1 ⟨rfl, h1, b1⟩))
        go_roundw
        case rel => exact ⟨k + 1, by omega, by go_num, by rw [HN.out, Xp.escB_plain he, Com.byteCells_snoc]; exact h1, hb.trans b1⟩
        case measure => simp [intOf]; omega
      · have he2 : Xp.escB s[k] = Xp.ent s[k] := Xp.escB_ent he
        have hl2 := (Xp.escB_len s[k]).2
        rw [he2] at hl2
        have HE := Lib.hid he2; clear he2
        generalize hent : Xp.ent s[k] = en at *
        have HENT := Lib.hid hent; clear hent
        have he0 : en.isEmpty = false := by simpa using he
        clear he
        go_wp2_with (first | (go_at_call 189; refine (entity _ _).mono ?_; rintro e w' ⟨rfl, rfl⟩; rw [HENT.out]) | (go_at_call 125; refine (Bld.writeString _ _ _ _ _ hI (by rw [Com.byteCells_length, Com.size_mk]; omega) hsz).mono ?_; rintro e w1 ⟨rfl, h1, b1⟩))
        go_roundw
        case rel => exact ⟨k + 1, by omega, by go_num, by rw [HN.out, HE.out, Com.byteCells_append]; rw [Com.strCells_mk] at h1; exact h1, hb.trans b1⟩
        case measure => simp [intOf]; omega
    · have hk2 : k = s.size := by omega
      have HK := Lib.hid hk2; clear hk2
      go_wp2_with (go_at_call 126; refine (Tryz.Builder_String_any _ _ _ _ hI hsz).mono ?_; rintro e w1 ⟨rfl, b1⟩)
      go_ret
      refine ⟨Com.str_eq rfl ?_, hb.trans b1⟩
      rw [List.take_of_length_le]
      rw [Com.toList_length, HK.out]
      exact Nat.le_refl _
end Go.Proofs.YtidflagmdabfaaaGreatDoor.XmlA
namespace Go.Proofs.YtidflagmdabfaaaGreatDoor.XmlB
open Go.RowKit Go.Proofs.YtidflagmdabfaaaGreatDoor

set_option maxHeartbeats 1000000 in
theorem refEscape (s : ByteArray) (w : World) (hs : s.size ≤ 4194304) :
    Calls Tryz.prog 112 #[.string s] w fun e w' => e = .returned (.string ⟨(Xp.esc s.data.toList).toArray⟩) ∧ w = w' := by
  go_enter Tryz.func112, Tryz.ntmps112
  go_wp2
  go_loop [3, 4] (fun o i => ∃ k : Nat, k ≤ s.size ∧ i = .int .i64 k ∧ o = .string ⟨(Xp.esc (s.data.toList.take k)).toArray⟩) (fun _ i => s.size - (intOf i).toNat)
  case atStart => exact ⟨0, Nat.zero_le _, rfl, rfl⟩
  case round =>
    obtain ⟨k, hk, rfl, rfl⟩ := hrel
    by_cases hlt : k < s.size
    · have hts := Com.take_succ s k hlt
      have HN := Lib.hid (show Xp.esc (s.data.toList.take (k + 1)) = Xp.esc (s.data.toList.take k) ++ Xp.escB s[k] by rw [hts, Xp.esc_snoc])
      have hl : (Xp.esc (s.data.toList.take k)).length ≤ 6 * s.size := by
        have h1 := Xp.esc_len (s.data.toList.take k)
        have h2 : (s.data.toList.take k).length ≤ k := List.length_take_le _ _
        omega
      clear hts
      rcases Xp.ent_cases s[k] with ⟨h, e⟩ | ⟨h, e⟩ | ⟨h, e⟩ | ⟨h, e⟩ | ⟨h, e⟩ | ⟨h1, h2, h3, h4, h5, e⟩
      iterate 5
        · have HE := Lib.hid (show Xp.escB s[k] = _ from (Xp.escB_ent (by rw [e]; simp)).trans e)
          clear e
          go_wp2
          go_round
          case rel => exact ⟨k + 1, by omega, by go_num, Com.cat (by rw [HN.out, HE.out])⟩
          case measure => simp [intOf]; omega
      · have HE := Lib.hid (Xp.escB_plain e)
        clear e
        have g1 : ((s[k].toNat : Int) == 38) = false := Com.u8_ne h1 rfl
        have g2 : ((s[k].toNat : Int) == 60) = false := Com.u8_ne h2 rfl
        have g3 : ((s[k].toNat : Int) == 62) = false := Com.u8_ne h3 rfl
        have g4 : ((s[k].toNat : Int) == 34) = false := Com.u8_ne h4 rfl
        have g5 : ((s[k].toNat : Int) == 39) = false := Com.u8_ne h5 rfl
        clear h1 h2 h3 h4 h5
        go_wp2
        go_round
        case rel => exact ⟨k + 1, by omega, by go_num, by rw [Com.extract_one s k hlt]; exact Com.cat (by rw [HN.out, HE.out])⟩
        case measure => simp [intOf]; omega
    · have HK := Lib.hid (show k = s.size by omega)
      go_wp2
      go_ret
      exact ⟨Com.str_eq rfl (by rw [Com.take_all s k HK.out]), rfl⟩

theorem tagv (name s : ByteArray) : (((((⟨#[60]⟩ ++ name) ++ ⟨#[62]⟩) ++ s) ++ ⟨#[60, 47]⟩) ++ name) ++ ⟨#[62]⟩ = (⟨(Xp.tag name.data.toList s.data.toList).toArray⟩ : ByteArray) := by
  cases name; cases s
  rename_i a b
  obtain ⟨a⟩ := a
  obtain ⟨b⟩ := b
  show _ = (⟨(Xp.tag a b).toArray⟩ : ByteArray)
  unfold Xp.tag
  simp only [← Com.mk_append]

set_option maxHeartbeats 1000000 in
theorem refTagS (name s : ByteArray) (w : World) (hs : name.size ≤ 140737488355328) (hs : s.size ≤ 35184372088832) :
    Calls Tryz.prog 111 #[.string name, .string s] w fun e w' => e = .returned (.string ⟨(Xp.tag name.data.toList s.data.toList).toArray⟩) ∧ w = w' := by
  go_enter Tryz.func111, Tryz.ntmps111
  go_wp2
  go_ret
  exact ⟨congrArg (fun x => Ending.returned (.string x)) (tagv name s), rfl⟩

theorem tagv_size (name s : List UInt8) : (Xp.tag name s).length = 2 * name.length + s.length + 5 := by simp [Xp.tag]; omega

end Go.Proofs.YtidflagmdabfaaaGreatDoor.XmlB
namespace Go.Proofs.YtidflagmdabfaaaGreatDoor.XmlC
open Go.RowKit Go.Proofs.YtidflagmdabfaaaGreatDoor

set_option maxHeartbeats 1000000 in
theorem tag (name : ByteArray) (a : Option Addr) (c : Nat) (xs : List ByteArray) (w : World) (hn : name.size ≤ 140737488355328) (hx : (Com.flat xs).length ≤ 35184372088832) (hm : xs.length ≤ 35184372088832) (hc : xs.length ≤ c) (hs : Com.Strs w a xs) :
    Calls Tryz.prog 109 #[.string name, .slice a xs.length c] w fun e w' => e = .returned (.string ⟨(Xp.tag name.data.toList (Com.flat xs)).toArray⟩) ∧ Below w.heap.size w w' := by
  have join : Calls Tryz.prog 71 #[.slice a xs.length c, .string ⟨#[]⟩] w fun e w' => e = .returned (.string ⟨(Com.flat xs).toArray⟩) ∧ Below w.heap.size w w' := by
    rcases hs with rfl | ⟨b, o, rfl, hb, hcell⟩
    · refine (Tryz.strings_Join_none a c _ w).mono ?_
      rintro e w' ⟨rfl, rfl⟩
      exact ⟨rfl, Below.refl _ _⟩
    · have he : Lib.join (xs.map (·.data.toList)) (ByteArray.mk #[]).data.toList = Com.flat xs := Com.intercalate_nil _
      refine (Tryz.strings_Join b o c xs _ w hcell hb (by omega) hc (by rw [he]; omega)).mono ?_
      rintro e w' ⟨rfl, hb⟩
      exact ⟨by rw [he], hb⟩
  have J := Lib.hid join; clear join
  go_enter Tryz.func109, Tryz.ntmps109
  go_wp2_with (go_at_call 71; refine J.out.mono ?_; rintro e w' ⟨rfl, hb⟩)
  go_ret
  exact ⟨congrArg (fun x => Ending.returned (.string x)) (XmlB.tagv name ⟨(Com.flat xs).toArray⟩), hb⟩

theorem strs_new (w : World) (x : ByteArray) (t : TypeId) : Com.Strs (w.alloc (.cells #[.string x] t)) (some ⟨w.heap.size, 0, none⟩) [x] := by
  refine .inr ⟨_, _, rfl, by simp, fun j y hy => ?_⟩
  match j, hy with
  | 0, hy => simp at hy; subst hy; simp

set_option maxHeartbeats 1000000 in
theorem text (name s : ByteArray) (w : World) (hn : name.size ≤ 4194304) (hs : s.size ≤ 4194304) :
    Calls Tryz.prog 107 #[.string name, .string s] w fun e w' => e = .returned (.string ⟨(Xp.tag name.data.toList (Xp.esc s.data.toList)).toArray⟩) ∧ Below w.heap.size w w' := by
  have hl := Xp.esc_len s.data.toList
  rw [Com.toList_length] at hl
  go_enter Tryz.func107, Tryz.ntmps107
  go_wp2_with (go_at_call 159; refine (XmlA.escape s _ hs).mono ?_; rintro e w1 ⟨rfl, hb1⟩)
  refine (tag name _ 1 [⟨(Xp.esc s.data.toList).toArray⟩] _ (by omega) (by rw [Com.flat_one]; simp; omega) (by simp) (by simp) (strs_new _ _ _)).mono ?_
  rintro e w2 ⟨rfl, hb2⟩
  go_wp2
  go_ret
  exact ⟨Com.str_eq rfl (by rw [Com.flat_one]), hb1.trans (((Below.refl _ _).alloc hb1.size _).trans (hb2.mono (by have := hb1.size; simp; omega)))⟩

set_option maxHeartbeats 1000000 in
theorem error (s : ByteArray) (w : World) (hs : s.size ≤ 4194304) :
    Calls Tryz.prog 105 #[.string s] w fun e w' => e = .returned (.string ⟨(Xp.docError s.data.toList).toArray⟩) ∧ Below w.heap.size w w' := by
  have hl := Xp.esc_len s.data.toList
  rw [Com.toList_length] at hl
  have hl2 := Xp.tag_len [67, 111, 100, 101] (Xp.esc s.data.toList)
  simp only [List.length_cons, List.length_nil] at hl2
  have hl3 : (Xp.tag [67, 111, 100, 101] (Xp.esc s.data.toList)).length ≤ 35184372088832 := by omega
  have hl4 := Xp.tag_len [69, 114, 114, 111, 114] (Xp.tag [67, 111, 100, 101] (Xp.esc s.data.toList))
  simp only [List.length_cons, List.length_nil] at hl4
  have hl5 : (Xp.tag [69, 114, 114, 111, 114] (Xp.tag [67, 111, 100, 101] (Xp.esc s.data.toList))).length ≤ 35184372088832 := by omega
  clear hl2 hl4
  go_enter Tryz.func105, Tryz.ntmps105
  go_wp2_with (go_at_call 107; refine (text _ s _ (by simp [Com.size_mk]) hs).mono ?_; rintro e w1 ⟨rfl, hb1⟩)
  refine (tag _ _ 1 [⟨(Xp.tag [67, 111, 100, 101] (Xp.esc s.data.toList)).toArray⟩] _ (by simp [Com.size_mk]) (by rw [Com.flat_one]; simp; omega) (by simp) (by simp) (strs_new _ _ _)).mono ?_
  rintro e w2 ⟨rfl, hb2⟩
  rw [Com.flat_one]
  go_wp2
  go_ret
  refine ⟨congrArg Ending.returned (Com.cat (a := Xp.top) (by rfl)), hb1.trans (((Below.refl _ _).alloc hb1.size _).trans (hb2.mono (by have := hb1.size; simp; omega)))⟩

end Go.Proofs.YtidflagmdabfaaaGreatDoor.XmlC
namespace Go.Proofs.YtidflagmdabfaaaGreatDoor.RtA
open Go.RowKit Go.Proofs.YtidflagmdabfaaaGreatDoor Go.Proofs.YtidflagmdabfaaaGreatDoor.HtW

/-- an answer's box -/
def Rb (B : Nat) (w : World) (a b c : Value) : Prop := w.heap[B]? = some (.cells #[a, b, c] 56 (0, 0))
theorem Rb.below {B : Nat} {w w' : World} {a b c : Value} (h : Rb B w a b c) (hb : Below w.heap.size w w') : Rb B w' a b c := (hb.block _ (Array.getElem?_eq_some_iff.1 h).1).trans h
theorem Rb.lt {B : Nat} {w : World} {a b c : Value} (h : Rb B w a b c) : B < w.heap.size := (Array.getElem?_eq_some_iff.1 h).1
theorem Rb.cells {B : Nat} {w : World} {a b c : Value} (h : Rb B w a b c) : w.cell? ⟨B, 0, none⟩ = some a ∧ w.cell? ⟨B, 1, none⟩ = some b ∧ w.cell? ⟨B, 2, none⟩ = some c ∧ w.frozen? ⟨B, 0, none⟩ = false ∧ w.frozen? ⟨B, 1, none⟩ = false ∧ w.frozen? ⟨B, 2, none⟩ = false := by
  unfold Rb at h
  refine ⟨?_, ?_, ?_, Lib.frozen_of_heap h 0, Lib.frozen_of_heap h 1, Lib.frozen_of_heap h 2⟩
  all_goals (rw [Lib.cell_of_heap h]; rfl)
abbrev st3 (w : World) (B : Nat) (a b c : Value) : World := ((w.setCell ⟨B, 0, none⟩ a).setCell ⟨B, 1, none⟩ b).setCell ⟨B, 2, none⟩ c
theorem Rb.put {B : Nat} {w : World} {u0 u1 u2 : Value} (h : Rb B w u0 u1 u2) (a b c : Value) : Rb B (st3 w B a b c) a b c := by
  unfold Rb at h ⊢
  simp only [st3, World.setCell, Array.getElem?_modify, if_true, h]; rfl
theorem below_st3 {b B : Nat} {w w' : World} (h : Below b w w') (hB : b ≤ B) (x y z : Value) : Below b w (st3 w' B x y z) :=
  ((h.setCell (p := ⟨B, 0, none⟩) hB _).setCell (p := ⟨B, 1, none⟩) hB _).setCell (p := ⟨B, 2, none⟩) hB _
theorem Rb.run (k : Nat) {B : Nat} {w : World} {a b c : Value} (h : Rb B w a b c) {fn : Func} (e : fn.results = #[.cell k 56]) {tmps : Array Value} (h2 : tmps.getD k undef = .pointer (some ⟨B, 0, none⟩)) :
    (results fn tmps).run Tryz.prog w = .ok (.agg #[a, b, c]) w :=
  results_cell_row e tmps w B 56 _ _ _ h2 h Tryz.underlying56 rfl (by kernel_rfl)
/-- a body lies apart from the box that is stored -/
theorem bs_far {w : World} {B : Nat} {a : Option Addr} {l : List UInt8} {c : Nat} (h : Bs w a l c) (hB : ∀ p, a = some p → p.block ≠ B) (x y z : Value) : Bs (st3 w B x y z) a l c := by
  refine ⟨h.1, h.2.1, h.2.2.imp id fun ⟨b, o, h1, h2, h3⟩ => ⟨b, o, h1, by simpa [st3] using h2, fun j v hj => ?_⟩⟩
  have hn : b ≠ B := hB _ h1
  have e : (st3 w B x y z).cell? ⟨b, o + j, none⟩ = w.cell? ⟨b, o + j, none⟩ := by
    refine World.cell?_of_block ?_
    show (st3 w B x y z).heap[b]? = w.heap[b]?
    unfold st3
    rw [Below.heap_setCell _ _ _ _ (fun h => hn h), Below.heap_setCell _ _ _ _ (fun h => hn h), Below.heap_setCell _ _ _ _ (fun h => hn h)]
  rw [e]
  exact h3 j v hj
/-- an answer with a body and no fields -/
def FPost (st : Int) (d : List UInt8) (base : Nat) (w' : World) (e : Ending) : Prop := ∃ a c, e = .returned (.agg #[.int .i64 st, .slice none 0 0, .slice a d.length c]) ∧ Bs w' a d c ∧ ∀ p, a = some p → base ≤ p.block

set_option maxHeartbeats 4000000 in
set_option maxRecDepth 100000 in
theorem failed (st : Int) (cd : ByteArray) (w : World) (hs : cd.size ≤ 1048576) :
    Calls Tryz.prog 60 #[.int .i64 st, .string cd] w fun e w' => FPost st (Xp.docError cd.data.toList) w.heap.size w' e ∧ Below w.heap.size w w' := by
  have kc := fun w s => Lib.run_convert_string_bytes (P := Tryz.prog) w 9 23 5 s Tryz.underlying9 Tryz.underlying23 Tryz.underlying5
  have hb0 := (Below.refl w.heap.size w).alloc (Nat.le_refl _) (.cells #[.int .i64 0, .slice none 0 0, .slice none 0 0] 56)
  have hR0 : Rb w.heap.size (w.alloc (.cells #[.int .i64 0, .slice none 0 0, .slice none 0 0] 56)) _ _ _ := heap_alloc_new w _
  have KE := Lib.hid (XmlC.error cd (w.alloc (.cells #[.int .i64 0, .slice none 0 0, .slice none 0 0] 56)) (by omega))
  go_enter Tryz.func60, Tryz.ntmps60
  go_wp2_with fail
  refine KE.out.mono ?_
  rintro e w1 ⟨rfl, hb1⟩
  obtain ⟨d, hd⟩ : ∃ d, d = Xp.docError cd.data.toList := ⟨_, rfl⟩
  have HD := Lib.hid hd
  rw [← hd]
  clear hd KE
  have hB1 := hb0.trans (hb1.mono hb0.size)
  have hxc := ShaJ.conv_bs w1 d
  have hxb := Lib.bytesWorld_below w1 5 ⟨d.toArray⟩
  have hB2 := hB1.trans (hxb.mono hB1.size)
  have hR2 := (hR0.below hb1).below hxb
  obtain ⟨x0, x1, x2, f0, f1, f2⟩ := hR2.cells
  go_wp2_with fail
  have hlt : w.heap.size < w1.heap.size := by have := hb1.size; rw [World.size_alloc] at this; omega
  refine bodyPost_ret (Rb.run 4 (hR2.put _ _ _) rfl rfl) rfl ⟨?_, below_st3 hB2 (Nat.le_refl _) _ _ _⟩
  rw [← HD.out]
  exact ⟨_, _, rfl, bs_far hxc (by rintro p hp; cases hp; simp; omega) _ _ _, by rintro p hp; cases hp; simp; omega⟩
end Go.Proofs.YtidflagmdabfaaaGreatDoor.RtA
namespace Go.Proofs.YtidflagmdabfaaaGreatDoor.SgQ
open Go.RowKit Go.Proofs.YtidflagmdabfaaaGreatDoor Go.Proofs.YtidflagmdabfaaaGreatDoor.Ht Go.Proofs.YtidflagmdabfaaaGreatDoor.HtW Go.Proofs.YtidflagmdabfaaaGreatDoor.HtC

theorem fcells_one (fs : List Fld) : ∀ u ∈ fcells fs, u.oneCell' = true := by
  intro u hu
  simp only [fcells, List.mem_flatMap] at hu
  obtain ⟨p, _, hu⟩ := hu
  simp at hu
  rcases hu with rfl | rfl <;> rfl
theorem Fs.holds {w : World} {p : Addr} {fs : List Fld} (h : Fs w (some p) fs) : ∀ (j : Nat) u, (fcells fs)[j]? = some u → w.cell? (p.add j) = some u := by
  intro j u hj
  rcases h with rfl | ⟨b, o, hp, hb, hc⟩
  · cases hj
  · cases hp
    rw [addr_add]
    have hjl : j < fs.length * 2 := by rw [← fcells_length]; exact (List.getElem?_eq_some_iff.1 hj).1
    have hq : j / 2 < fs.length := by omega
    have hq' := List.getElem?_eq_getElem hq
    obtain ⟨c1, c2⟩ := hc (j / 2) _ hq'
    obtain ⟨d1, d2⟩ := fcells_get hq'
    rcases Nat.mod_two_eq_zero_or_one j with e | e
    · have e2 : j = j / 2 * 2 := by omega
      rw [← e2] at c1 d1
      rw [c1, ← hj, d1]
    · have e2 : j = j / 2 * 2 + 1 := by omega
      rw [Nat.add_assoc, ← e2] at c2
      rw [← e2] at d2
      rw [c2, ← hj, d2]
/-- append: fields onto fields -/
theorem run_append_flds (w : World) (base : Nat) (v : Value) (l r : List Fld) (hown : w.ownsRow base 91 2 v l.length (fcells l)) (aR : Option Addr) (cR : Nat) (hF : Fs w aR r) (hn : aR = none → r.length = 0 ∧ cR = 0) (hbase : base ≤ w.heap.size) (hlen : l.length + r.length ≤ 4294967300) (ty : TypeId) :
    ∃ ar cr w', (Builtin.append_ #[22, 22] ty #[v, .slice aR r.length cR]).run Tryz.prog w = .ok (.slice ar (l.length + r.length) cr) w' ∧ w'.ownsRow base 91 2 (.slice ar (l.length + r.length) cr) (l ++ r).length (fcells (l ++ r)) ∧ w.grownBy w' v.ownBlock ∧ Below base w w' := by
  obtain ⟨i0, hi, hz0, hz1, hz2⟩ := info_parts infoField
  have happ : fcells (l ++ r) = fcells l ++ fcells r := by simp [fcells]
  cases aR with
  | none =>
    obtain ⟨h0, rfl⟩ := hn rfl
    have hr : r = [] := List.eq_nil_of_length_eq_zero h0
    subst hr
    have hrun := run_append_owned_none (P := Tryz.prog) w base 22 ty 91 i0 2 Tryz.underlying22 hi v l.length (fcells l) hown
    obtain ⟨a, c, rfl, _, _⟩ := fs_of_own hown
    exact ⟨a, c, w, hrun, by simpa using hown, ⟨rfl, rfl, rfl, Nat.le_refl _, fun _ _ _ => rfl⟩, Below.refl _ _⟩
  | some p =>
    obtain ⟨v', w', h1, h2, h3, _⟩ := run_append_own (P := Tryz.prog) w base 22 ty 91 i0 _ 2 32 Tryz.underlying22 hi hz0 hz1 hz2 rfl (by decide) v l.length (fcells l) hown p r.length cR (fcells r) (fcells_length r) (Fs.holds hF) (fcells_one r) (by unfold maxLen; omega) (by omega) hbase
    rw [← happ, ← List.length_append] at h2
    obtain ⟨a, c, rfl, _, _⟩ := fs_of_own h2
    rw [List.length_append] at h1
    refine ⟨a, c, w', h1, by rw [← List.length_append]; exact h2, h3, (Below.refl base w).grown h3 hbase fun k hk => ?_⟩
    exact (hown.lt k hk).1
theorem wpList_append_flds {ops : Array Oper} {rest : List Oper} {o : Oper} {a : Act} {Q : Exit → Act → World → Prop} (w : World) (hg : o.guard = none) (s x : Operand) (hop : o.op = Op.call { callee := Callee.builtin Builtin.append, args := #[s, x], argTypes := #[22, 22] })
    (base n : Nat) (v : Value) (l r : List Fld) (hown : w.ownsRow base 91 2 v l.length (fcells l)) (aR : Option Addr) (cR : Nat) (hF : Fs w aR r) (hn : aR = none → r.length = 0 ∧ cR = 0) (hbase : base ≤ w.heap.size) (hlen : l.length + r.length ≤ 4294967300)
    (hN : n = l.length + r.length) (hs : a.eval s = v) (hx : a.eval x = .slice aR r.length cR)
    (hK : ∀ ar cr w', w'.ownsRow base 91 2 (.slice ar n cr) (l ++ r).length (fcells (l ++ r)) → w.grownBy w' v.ownBlock → Below base w w' → wpList Tryz.prog ops Q rest (a.put o.dst (.slice ar n cr)) w') :
    wpList Tryz.prog ops Q (o :: rest) a w := by
  subst hN
  refine wpList_plain hg fun K hK' => ?_
  obtain ⟨ar, cr, w', hrun, h1, h2, h3⟩ := run_append_flds w base v l r hown aR cR hF hn hbase hlen o.type
  unfold Oper.wp
  simp [execOp, hop, resolve, invoke, builtin, hs, hx, hrun, Result.andThen]
  exact hK' _ _ (hK ar cr w' h1 h2 h3)
theorem own_fresh (w : World) : (w.alloc (.cells #[] 91)).ownsRow w.heap.size 91 2 (.slice (some ⟨w.heap.size, 0, none⟩) 0 0) 0 [] :=
  ⟨rfl, .inr ⟨w.heap.size, 0, #[], rfl, Nat.le_refl _, heap_alloc_new _ _, Nat.le_refl _, by unfold maxLen; omega, rfl, rfl⟩⟩
theorem own_keep {w w' : World} {base : Nat} {e : TypeId} {size : Nat} {v : Value} {n : Nat} {xs : List Value} (h : w.ownsRow base e size v n xs) (hk : ∀ g, v.ownBlock = some g → w'.heap[g]? = w.heap[g]?) : w'.ownsRow base e size v n xs :=
  ⟨h.1, h.2.imp id fun ⟨g, cap, cur, h1, h2, h3, h4⟩ => ⟨g, cap, cur, h1, h2, (hk g (by rw [h1]; rfl)).trans h3, h4⟩⟩
/-- a store below the base of a row -/
theorem own_set {w : World} {base : Nat} {e : TypeId} {size : Nat} {v : Value} {n : Nat} {xs : List Value} (h : w.ownsRow base e size v n xs) {p : Addr} (hp : p.block < base) (u : Value) : (w.setCell p u).ownsRow base e size v n xs :=
  ownsRow_setCell_below h hp u
theorem rq_low {B b : Nat} {w w' : World} {x y z v : Value} (h : Rq B w x y z v) (hb : Below b w w') (hlt : B < b) : Rq B w' x y z v := (hb.block _ hlt).trans h
theorem rq_run {B : Nat} {w : World} {a b c d : Value} (h : Rq B w a b c d) {fn : Func} (e : fn.results = #[.cell 2 25]) {tmps : Array Value} (h2 : tmps.getD 2 undef = .pointer (some ⟨B, 0, none⟩)) :
    (results fn tmps).run Tryz.prog w = .ok (.agg #[a, b, c, d]) w :=
  results_cell_row e tmps w B 25 _ _ _ h2 h Tryz.underlying25 rfl (by kernel_rfl)

set_option maxHeartbeats 4000000 in
set_option maxRecDepth 100000 in
theorem copied (m t bd : List UInt8) (fs : List Fld) {af ab : Option Addr} (cf cb : Nat) (w : World) (hf : Fs w af fs) (hn : af = none → fs.length = 0 ∧ cf = 0) (hb : Bs w ab bd cb) (hfl : fs.length ≤ 4294967296) (hbl : bd.length ≤ 140737488350000) :
    Calls Tryz.prog 34 #[.agg #[.string ⟨m.toArray⟩, .string ⟨t.toArray⟩, .slice af fs.length cf, .slice ab bd.length cb]] w fun e w' => ∃ a2 c2 a3 c3, e = .returned (.agg #[.string ⟨m.toArray⟩, .string ⟨t.toArray⟩, .slice a2 fs.length c2, .slice a3 bd.length c3]) ∧ w'.ownsRow w.heap.size 91 2 (.slice a2 fs.length c2) fs.length (fcells fs) ∧ w'.ownsRow w.heap.size 5 1 (.slice a3 bd.length c3) bd.length (Lib.byteCells bd) ∧ Below w.heap.size w w' := by
  have HF := Lib.hid hf; clear hf
  have HB := Lib.hid hb; clear hb
  have hb0 := ((Below.refl w.heap.size w).alloc (Nat.le_refl _) (.cells #[.string ⟨m.toArray⟩, .string ⟨t.toArray⟩, .slice af fs.length cf, .slice ab bd.length cb] 25)).alloc (by simp) (.cells #[.string ⟨#[]⟩, .string ⟨#[]⟩, .slice none 0 0, .slice none 0 0] 25)
  have hR0 : Rq w.heap.size ((w.alloc (.cells #[.string ⟨m.toArray⟩, .string ⟨t.toArray⟩, .slice af fs.length cf, .slice ab bd.length cb] 25)).alloc (.cells #[.string ⟨#[]⟩, .string ⟨#[]⟩, .slice none 0 0, .slice none 0 0] 25)) _ _ _ _ := heap_alloc2_old _ _ _
  have hQ0 : Rq (w.heap.size + 1) ((w.alloc (.cells #[.string ⟨m.toArray⟩, .string ⟨t.toArray⟩, .slice af fs.length cf, .slice ab bd.length cb] 25)).alloc (.cells #[.string ⟨#[]⟩, .string ⟨#[]⟩, .slice none 0 0, .slice none 0 0] 25)) _ _ _ _ := heap_alloc2_new _ _ _
  have hz0 : ((w.alloc (.cells #[.string ⟨m.toArray⟩, .string ⟨t.toArray⟩, .slice af fs.length cf, .slice ab bd.length cb] 25)).alloc (.cells #[.string ⟨#[]⟩, .string ⟨#[]⟩, .slice none 0 0, .slice none 0 0] 25)).heap.size = w.heap.size + 2 := by simp
  go_enter Tryz.func34, Tryz.ntmps34
  go_upto_region 1 with fail
  generalize (w.alloc (.cells #[.string ⟨m.toArray⟩, .string ⟨t.toArray⟩, .slice af fs.length cf, .slice ab bd.length cb] 25)).alloc (.cells #[.string ⟨#[]⟩, .string ⟨#[]⟩, .slice none 0 0, .slice none 0 0] 25) = w1 at *
  obtain ⟨N, hN⟩ : ∃ N, N = w.heap.size := ⟨_, rfl⟩
  have HF1 := Lib.hid (HF.out.below hb0)
  rw [← hN] at hR0 hQ0 hz0 hb0 ⊢
  have HN := Lib.hid hN
  have HZ := Lib.hid hz0
  have hb2 := (Below.refl w1.heap.size w1).alloc (Nat.le_refl _) (.cells #[] 91)
  have hR1 := hR0.below hb2
  have hQ1 := hQ0.below hb2
  have hB1 := hb0.trans (hb2.mono (by omega))
  have HB1 := Lib.hid hB1
  have HQ1 := Lib.hid hQ1
  have HF2 := Lib.hid (HF1.out.below hb2)
  have o0 := own_fresh w1
  clear hb0 hN hz0 hQ0 hR0 HF HF1 hb2 hB1 hQ1
  have hz1 : (w1.alloc (.cells #[] 91)).heap.size = w1.heap.size + 1 := by simp
  obtain ⟨x0, x1, x2, x3, g0, g1, g2, g3⟩ := hR1.cells
  go_upto_region 2 with (at_builtin; refine wpList_append_flds _ rfl (.tmp 3) (.tmp 5) rfl w1.heap.size fs.length (.slice (some ⟨w1.heap.size, 0, none⟩) 0 0) [] fs o0 af cf HF2.out hn (by simp) (by simp; omega) (by simp) rfl rfl ?_; intro ar cr w2 ho2 hg2 hb3; rw [List.nil_append] at ho2; have hR2 := rq_low hR1 hb3 (by have := HZ.out; omega); have hQ2 := rq_low HQ1.out hb3 (by have := HZ.out; omega); have HQ2 := Lib.hid hQ2; clear hQ2; clear x0 x1 x2 x3 g0 g1 g2 g3; obtain ⟨x0, x1, x2, x3, g0, g1, g2, g3⟩ := hR2.cells)
  have hR3 := hR2.put3 (.slice ar fs.length cr)
  have HQ3 := Lib.hid (HQ2.out.far (p := ⟨N, 2, none⟩) (by show N + 1 ≠ N; omega) (.slice ar fs.length cr))
  have HO3 := Lib.hid (own_set ho2 (p := ⟨N, 2, none⟩) (by have := HZ.out; show N < _; omega) (.slice ar fs.length cr))
  have hB3 := (HB1.out.trans (hb3.mono (by have := HZ.out; omega))).setCell (p := ⟨N, 2, none⟩) (Nat.le_refl _) (.slice ar fs.length cr)
  have HS3 := Lib.hid (show w1.heap.size + 1 ≤ (w2.setCell ⟨N, 2, none⟩ (.slice ar fs.length cr)).heap.size by rw [World.size_setCell]; have := hb3.size; omega)
  generalize w2.setCell ⟨N, 2, none⟩ (.slice ar fs.length cr) = w3 at *
  have HB3 := Lib.hid hB3
  have hBd3 := HB.out.below (HN.out ▸ hB3)
  clear hR2 hR1 hg2 hb3 ho2 HQ2 HQ1 HB1 HF2 o0 hz1 HB x0 x1 x2 x3 g0 g1 g2 g3 hB3
  have hb4 := (Below.refl w3.heap.size w3).alloc (Nat.le_refl _) (.cells #[] 5)
  have hR4 := hR3.below hb4
  have HQ4 := Lib.hid (HQ3.out.below hb4)
  have HBd4 := Lib.hid (hBd3.below hb4)
  have H4 := Lib.hid hb4
  have o4 := HtX.own_fresh w3 _ (Nat.le_refl _)
  have hz4 : (w3.alloc (.cells #[] 5)).heap.size = w3.heap.size + 1 := by simp
  clear hb4 hR3 HQ3 hBd3
  obtain ⟨x0, x1, x2, x3, g0, g1, g2, g3⟩ := hR4.cells
  go_upto_region 3 with (at_builtin; refine App.append_more _ rfl (.tmp 8) (.tmp 10) rfl w3.heap.size [] bd o4 ab cb HBd4.out (by simp) (by simp; omega) rfl rfl ?_; intro ar2 cr2 w5 n5 hn5 ho5 hb5; rw [List.nil_append] at hn5 ho5; subst hn5; have hR5 := rq_low hR4 hb5 (by have := HS3.out; have := HZ.out; omega); have HQ5 := Lib.hid (rq_low HQ4.out hb5 (by have := HS3.out; have := HZ.out; omega)); clear x0 x1 x2 x3 g0 g1 g2 g3; obtain ⟨x0, x1, x2, x3, g0, g1, g2, g3⟩ := hR5.cells)
  have hR6 := hR5.put4 (.slice ar2 bd.length cr2)
  have hQ6 := HQ5.out.far (p := ⟨N, 3, none⟩) (by show N + 1 ≠ N; omega) (.slice ar2 bd.length cr2)
  have HO6 := Lib.hid (own_set (Com.own_below HO3.out (H4.out.trans hb5)) (p := ⟨N, 3, none⟩) (by have := HZ.out; show N < _; omega) (.slice ar2 bd.length cr2))
  have HP6 := Lib.hid (own_set ho5 (p := ⟨N, 3, none⟩) (by have := HZ.out; have := HS3.out; show N < _; omega) (.slice ar2 bd.length cr2))
  have HB6 := Lib.hid ((HB3.out.trans ((H4.out.trans hb5).mono (by have := HZ.out; have := HS3.out; omega))).setCell (p := ⟨N, 3, none⟩) (Nat.le_refl _) (.slice ar2 bd.length cr2))
  generalize w5.setCell ⟨N, 3, none⟩ (.slice ar2 bd.length cr2) = w6 at *
  clear x0 x1 x2 x3 g0 g1 g2 g3 hR5 hR4 HQ4 HQ5 H4 o4 hz4 HBd4 hb5 ho5 HO3 HB3
  have HQ6 := Lib.hid hQ6
  obtain ⟨x0, x1, x2, x3, _⟩ := hR6.cells
  obtain ⟨y0, y1, y2, y3, g0, g1, g2, g3⟩ := hQ6.cells
  go_wp2_with fail
  have hQ7 := HQ6.out.put (.string ⟨m.toArray⟩) (.string ⟨t.toArray⟩) (.slice ar fs.length cr) (.slice ar2 bd.length cr2)
  refine bodyPost_ret (rq_run hQ7 rfl rfl) rfl ⟨ar, cr, ar2, cr2, rfl, ?_, ?_, ?_⟩
  · rw [← HN.out]; exact SgD.own_low (SgD.own_st4 HO6.out (by have := HZ.out; omega) _ _ _ _) (by have := HZ.out; omega)
  · rw [← HN.out]; exact SgD.own_low (SgD.own_st4 HP6.out (by have := HZ.out; have := HS3.out; omega) _ _ _ _) (by have := HZ.out; have := HS3.out; omega)
  · rw [← HN.out]; exact SgC.below_four' HB6.out (Nat.le_succ _) _ _ _ _
end Go.Proofs.YtidflagmdabfaaaGreatDoor.SgQ
