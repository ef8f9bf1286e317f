/-
  The walk of bollardlaw19.XmlIds.
-/
import Derived.Test.YtmimkgfkicgfiaaDoorIdE
import Derived.Laws.StructEq
import Derived.BigQuiet
namespace Go.Proofs.YtmimkgfkicgfiaaDoor.IdG
open Go.RowKit Go.Proofs.YtmimkgfkicgfiaaDoor Go.Proofs.YtmimkgfkicgfiaaDoor.Ip Go.Proofs.YtmimkgfkicgfiaaDoor.IdC Go.Proofs.YtmimkgfkicgfiaaDoor.IdD

@[go_sem] theorem undId : Tryd.prog.underlying 51 = some (.struct (Tryd.prog.fieldsOf 51)) := by kernel_rfl
@[go_sem] theorem heldId : Tryd.prog.stoodInHeld 51 = false := by kernel_rfl
theorem fieldsId : (Tryd.prog.fieldsOf 51).toList.map (fun f => (f.name, f.type, f.offset)) = [("Node", 3, 0), ("Boot", 3, 1), ("Seq", 3, 2)] := by kernel_rfl
theorem infoInt : (Tryd.prog.info? 3).map (·.size) = some 1 := by kernel_rfl
theorem run_partInt (xs : Array Value) (o : Nat) (w : World) {x : Value} (h : xs[o]? = some x) : (part 3 xs o).run Tryd.prog w = .ok x w := by
  have := infoInt
  cases hi : Tryd.prog.info? 3 with
  | none => rw [hi] at this; cases this
  | some i =>
    rw [hi] at this
    have hs : i.size = 1 := by simpa using this
    simp [part, typeInfo, hi, sizeOf, hs, h]
theorem equalId (a b c : Int) (w : World) : (Op.equalIn 10000 51 (idV a b c) (idV a b c)).run Tryd.prog w = .ok true w := by
  rw [run_equalIn_agg _ _ _ _ _ undId heldId]
  have hf := fieldsId
  generalize (Tryd.prog.fieldsOf 51).toList = fs at hf ⊢
  match fs, hf with
  | [⟨n1, t1, o1, _, _, _, _⟩, ⟨n2, t2, o2, _, _, _, _⟩, ⟨n3, t3, o3, _, _, _, _⟩], hf =>
    simp only [List.map_cons, List.map_nil, List.cons.injEq, Prod.mk.injEq] at hf
    obtain ⟨⟨rfl, rfl, rfl⟩, ⟨rfl, rfl, rfl⟩, ⟨rfl, rfl, rfl⟩, _⟩ := hf
    have e1 : ∀ w, (part 3 #[Value.int .i64 a, .int .i64 b, .int .i64 c] 0).run Tryd.prog w = .ok (.int .i64 a) w := fun w => run_partInt _ _ _ rfl
    have e2 : ∀ w, (part 3 #[Value.int .i64 a, .int .i64 b, .int .i64 c] 1).run Tryd.prog w = .ok (.int .i64 b) w := fun w => run_partInt _ _ _ rfl
    have e3 : ∀ w, (part 3 #[Value.int .i64 a, .int .i64 b, .int .i64 c] 2).run Tryd.prog w = .ok (.int .i64 c) w := fun w => run_partInt _ _ _ rfl
    have e4 : ∀ (n : Int) w, (Op.equalIn 9999 3 (.int .i64 n) (.int .i64 n)).run Tryd.prog w = .ok true w := fun n w => by
      rw [run_equalIn_int w 9998 _ _ _ _ _ Tryd.underlying3]; simp
    simp [Op.eqFields, e1, e2, e3, e4, Result.andThen]
theorem neqId (a b c : Int) (w : World) : (binOp .neq 51 (idV a b c) (idV a b c)).run Tryd.prog w = .ok (.bool false) w := by
  rw [run_neq_struct, equalId]; rfl
theorem eqlId (a b c : Int) (w : World) : (binOp .eql 51 (idV a b c) (idV a b c)).run Tryd.prog w = .ok (.bool true) w := by
  rw [run_eql_struct, equalId]; rfl
theorem mul (a b c : Int) (h1 : Xd.I64 a) (h2 : Xd.I64 b) (h3 : Xd.I64 c) : (Xd.idText a b c).length ≤ 16777216 := by
  have := Xd.id_len h1 h2 h3
  omega

set_option maxHeartbeats 1000000 in
set_option maxRecDepth 100000 in
theorem ids (a b c : Int) (s : List UInt8) (w : World) (ha : Xd.I64 a) (hb : Xd.I64 b) (hc : Xd.I64 c) (hs : s.length ≤ 16777216) (hm : Mx w) (hn : Ne w) (ht : XmlH.Tab w) :
    Calls Tryd.prog 14 #[idV a b c, .string ⟨s.toArray⟩] w fun e w' => e = .returned (.bool true) ∧ Below w.heap.size w w' := by
  have hb0 : Below w.heap.size w (w.alloc (.cells #[.int .i64 a, .int .i64 b, .int .i64 c] 51)) := (Below.refl _ _).alloc (Nat.le_refl _) _
  have hI : Ib w.heap.size (w.alloc (.cells #[.int .i64 a, .int .i64 b, .int .i64 c] 51)) (.int .i64 a) (.int .i64 b) (.int .i64 c) := heap_alloc_new _ _
  have HB0 := Lib.hid hb0; have HI0 := Lib.hid hI
  have HA := Lib.hid ha; have HBB := Lib.hid hb; have HC := Lib.hid hc
  have hTl := mul a b c ha hb hc
  clear hb0 hI ha hb hc
  go_enter Tryd.func14, Tryd.ntmps14
  go_wp2_with fail
  refine (XmlC.alive _).mono ?_
  rintro e w1 ⟨rfl, hb1⟩
  have hI1 := HI0.out.below hb1
  have hB1 := HB0.out.trans (hb1.mono HB0.out.size)
  obtain ⟨c0, c1, c2, _, _, _⟩ := hI1.cells
  have HI1 := Lib.hid hI1; have HB1 := Lib.hid hB1
  have HT1 := Lib.hid (ht.below hB1)
  clear hI1 hB1 hb1
  go_wp2_with fail
  refine (XmlL.id a b c _ HA.out HBB.out HC.out HT1.out).mono ?_
  rintro e w2 ⟨rfl, hb2⟩
  have HB2 := Lib.hid (HB1.out.trans (hb2.mono HB1.out.size))
  have HI2 := Lib.hid (HI1.out.below hb2)
  clear hb2 c0 c1 c2
  go_wp2_with fail
  refine (IdE.parseId (Xd.idText a b c) _ hTl (hm.below HB2.out) (hn.below HB2.out) (ht.below HB2.out)).mono ?_
  rintro e w3 ⟨hP, hb3⟩
  have HB3 := Lib.hid (HB2.out.trans (hb3.mono HB2.out.size))
  have HI3 := Lib.hid (HI2.out.below hb3)
  clear hb3
  -- what came back
  have hP' : (e = .returned (.tuple #[idV a b c, .bool true]) ∧ IdA.gd a b c = true) ∨ (e = .returned (.tuple #[idV 0 0 0, .bool false]) ∧ IdA.gd a b c = false) := by
    rcases hP with ⟨x, y, z, ⟨h1, h2⟩, rfl⟩ | ⟨hno, rfl⟩
    · obtain ⟨rfl, rfl, rfl⟩ := idText_inj h1
      exact .inl ⟨rfl, gd_good.2 ⟨x, y, z, rfl, rfl, rfl, h2⟩⟩
    · refine .inr ⟨rfl, ?_⟩
      cases hg : IdA.gd a b c with
      | false => rfl
      | true =>
        obtain ⟨x, y, z, rfl, rfl, rfl, h2⟩ := gd_good.1 hg
        exact absurd ⟨x, y, z, idText_nat x y z, h2⟩ hno
  clear hP
  rcases hP' with ⟨rfl, hg⟩ | ⟨rfl, hg⟩
  · have hbx : Below w3.heap.size w3 (w3.alloc (.cells #[.int .i64 a, .int .i64 b, .int .i64 c] 51)) := (Below.refl _ _).alloc (Nat.le_refl _) _
    have hK : Ib w3.heap.size (w3.alloc (.cells #[.int .i64 a, .int .i64 b, .int .i64 c] 51)) (.int .i64 a) (.int .i64 b) (.int .i64 c) := heap_alloc_new _ _
    have HK := Lib.hid hK
    have HI3x := Lib.hid (HI3.out.below hbx)
    have HB3x := Lib.hid (HB3.out.trans (hbx.mono HB3.out.size))
    obtain ⟨c0, c1, c2, _, _, _⟩ := HI3x.out.cells
    clear hbx hK
    go_wp2_with fail
    refine (XmlL.refId a b c _ HA.out HBB.out HC.out (ht.below HB3x.out)).mono ?_
    rintro e w4 ⟨rfl, hb4⟩
    have HB4 := Lib.hid (HB3x.out.trans (hb4.mono HB3x.out.size))
    have HI4 := Lib.hid (HI3x.out.below hb4)
    have HK4 := Lib.hid (HK.out.below hb4)
    clear hb4 c0 c1 c2
    obtain ⟨c0, c1, c2, _, _, _⟩ := HI4.out.cells
    go_wp2_with fail
    refine (IdA.refGood a b c HA.out HBB.out HC.out _).mono ?_
    rintro e w5 ⟨rfl, hb5⟩
    rw [hg]
    have HB5 := Lib.hid (HB4.out.trans (hb5.mono HB4.out.size))
    obtain ⟨k0, k1, k2, _, _, _⟩ := (HK4.out.below hb5).cells
    obtain ⟨d0, d1, d2, _, _, _⟩ := (HI4.out.below hb5).cells
    clear hb5 c0 c1 c2
    have hne := neqId a b c
    go_wp2_with fail
    refine (IdE.parseId s _ hs (hm.below HB5.out) (hn.below HB5.out) (ht.below HB5.out)).mono ?_
    rintro e w6 ⟨hP, hb6⟩
    have HB6 := Lib.hid (HB5.out.trans (hb6.mono HB5.out.size))
    clear hb6
    rcases hP with ⟨x, y, z, ⟨h1, h2⟩, rfl⟩ | ⟨hno, rfl⟩
    · have H1 := Lib.hid h1
      clear h1
      have hbx : Below w6.heap.size w6 (w6.alloc (.cells #[.int .i64 x, .int .i64 y, .int .i64 z] 51)) := (Below.refl _ _).alloc (Nat.le_refl _) _
      have hK : Ib w6.heap.size (w6.alloc (.cells #[.int .i64 x, .int .i64 y, .int .i64 z] 51)) (.int .i64 x) (.int .i64 y) (.int .i64 z) := heap_alloc_new _ _
      have HK := Lib.hid hK; have HBK := Lib.hid (HB6.out.trans (hbx.mono HB6.out.size))
      clear hbx hK
      go_wp2_with fail
      refine (IdF.parseId s _ (by omega)).mono ?_
      rintro e w7 ⟨hQ, hb7⟩
      have hQ' : e = .returned (.tuple #[idV x y z, .bool true]) := by
        rcases hQ with ⟨x', y', z', hy, rfl⟩ | ⟨hno, _⟩
        · obtain ⟨e1, e2⟩ := (yes_iff _ _ _ _).1 hy
          obtain ⟨rfl, rfl, rfl⟩ := idt_inj (H1.out.symm.trans e1)
          rfl
        · exact absurd ⟨x, y, z, (yes_iff _ _ _ _).2 ⟨H1.out, h2⟩⟩ hno
      subst hQ'
      obtain ⟨k0, k1, k2, _, _, _⟩ := (HK.out.below hb7).cells
      have hlt := (HK.out.below hb7).lt
      have HB7 := Lib.hid (HBK.out.trans (hb7.mono HBK.out.size))
      have heq := eqlId x y z
      clear hb7 hQ h2
      go_wp2_with fail
      go_ret
      exact ⟨rfl, HB7.out.alloc HB7.out.size _⟩
    · have hbx : Below w6.heap.size w6 (w6.alloc (.cells #[.int .i64 0, .int .i64 0, .int .i64 0] 51)) := (Below.refl _ _).alloc (Nat.le_refl _) _
      have hK : Ib w6.heap.size (w6.alloc (.cells #[.int .i64 0, .int .i64 0, .int .i64 0] 51)) (.int .i64 0) (.int .i64 0) (.int .i64 0) := heap_alloc_new _ _
      have HK := Lib.hid hK; have HBK := Lib.hid (HB6.out.trans (hbx.mono HB6.out.size))
      clear hbx hK
      go_wp2_with fail
      refine (IdF.parseId s _ (by omega)).mono ?_
      rintro e w7 ⟨hQ, hb7⟩
      have hQ' : e = .returned (.tuple #[idV 0 0 0, .bool false]) := by
        rcases hQ with ⟨x', y', z', hy, _⟩ | ⟨_, rfl⟩
        · exact absurd ⟨x', y', z', (yes_iff _ _ _ _).1 hy⟩ hno
        · rfl
      subst hQ'
      obtain ⟨k0, k1, k2, _, _, _⟩ := (HK.out.below hb7).cells
      have hlt := (HK.out.below hb7).lt
      have HB7 := Lib.hid (HBK.out.trans (hb7.mono HBK.out.size))
      have heq := eqlId 0 0 0
      clear hb7 hQ hno
      go_wp2_with fail
      go_ret
      exact ⟨rfl, HB7.out.alloc HB7.out.size _⟩
  · have hbx : Below w3.heap.size w3 (w3.alloc (.cells #[.int .i64 0, .int .i64 0, .int .i64 0] 51)) := (Below.refl _ _).alloc (Nat.le_refl _) _
    have hK : Ib w3.heap.size (w3.alloc (.cells #[.int .i64 0, .int .i64 0, .int .i64 0] 51)) (.int .i64 0) (.int .i64 0) (.int .i64 0) := heap_alloc_new _ _
    have HK := Lib.hid hK
    have HI3x := Lib.hid (HI3.out.below hbx)
    have HB3x := Lib.hid (HB3.out.trans (hbx.mono HB3.out.size))
    obtain ⟨c0, c1, c2, _, _, _⟩ := HI3x.out.cells
    clear hbx hK
    go_wp2_with fail
    refine (XmlL.refId a b c _ HA.out HBB.out HC.out (ht.below HB3x.out)).mono ?_
    rintro e w4 ⟨rfl, hb4⟩
    have HB4 := Lib.hid (HB3x.out.trans (hb4.mono HB3x.out.size))
    have HI4 := Lib.hid (HI3x.out.below hb4)
    have HK4 := Lib.hid (HK.out.below hb4)
    clear hb4 c0 c1 c2
    obtain ⟨c0, c1, c2, _, _, _⟩ := HI4.out.cells
    go_wp2_with fail
    refine (IdA.refGood a b c HA.out HBB.out HC.out _).mono ?_
    rintro e w5 ⟨rfl, hb5⟩
    rw [hg]
    have HB5 := Lib.hid (HB4.out.trans (hb5.mono HB4.out.size))
    obtain ⟨k0, k1, k2, _, _, _⟩ := (HK4.out.below hb5).cells
    obtain ⟨d0, d1, d2, _, _, _⟩ := (HI4.out.below hb5).cells
    clear hb5 c0 c1 c2
    go_wp2_with fail
    refine (IdE.parseId s _ hs (hm.below HB5.out) (hn.below HB5.out) (ht.below HB5.out)).mono ?_
    rintro e w6 ⟨hP, hb6⟩
    have HB6 := Lib.hid (HB5.out.trans (hb6.mono HB5.out.size))
    clear hb6
    rcases hP with ⟨x, y, z, ⟨h1, h2⟩, rfl⟩ | ⟨hno, rfl⟩
    · have H1 := Lib.hid h1
      clear h1
      have hbx : Below w6.heap.size w6 (w6.alloc (.cells #[.int .i64 x, .int .i64 y, .int .i64 z] 51)) := (Below.refl _ _).alloc (Nat.le_refl _) _
      have hK : Ib w6.heap.size (w6.alloc (.cells #[.int .i64 x, .int .i64 y, .int .i64 z] 51)) (.int .i64 x) (.int .i64 y) (.int .i64 z) := heap_alloc_new _ _
      have HK := Lib.hid hK; have HBK := Lib.hid (HB6.out.trans (hbx.mono HB6.out.size))
      clear hbx hK
      go_wp2_with fail
      refine (IdF.parseId s _ (by omega)).mono ?_
      rintro e w7 ⟨hQ, hb7⟩
      have hQ' : e = .returned (.tuple #[idV x y z, .bool true]) := by
        rcases hQ with ⟨x', y', z', hy, rfl⟩ | ⟨hno, _⟩
        · obtain ⟨e1, e2⟩ := (yes_iff _ _ _ _).1 hy
          obtain ⟨rfl, rfl, rfl⟩ := idt_inj (H1.out.symm.trans e1)
          rfl
        · exact absurd ⟨x, y, z, (yes_iff _ _ _ _).2 ⟨H1.out, h2⟩⟩ hno
      subst hQ'
      obtain ⟨k0, k1, k2, _, _, _⟩ := (HK.out.below hb7).cells
      have hlt := (HK.out.below hb7).lt
      have HB7 := Lib.hid (HBK.out.trans (hb7.mono HBK.out.size))
      have heq := eqlId x y z
      clear hb7 hQ h2
      go_wp2_with fail
      go_ret
      exact ⟨rfl, HB7.out.alloc HB7.out.size _⟩
    · have hbx : Below w6.heap.size w6 (w6.alloc (.cells #[.int .i64 0, .int .i64 0, .int .i64 0] 51)) := (Below.refl _ _).alloc (Nat.le_refl _) _
      have hK : Ib w6.heap.size (w6.alloc (.cells #[.int .i64 0, .int .i64 0, .int .i64 0] 51)) (.int .i64 0) (.int .i64 0) (.int .i64 0) := heap_alloc_new _ _
      have HK := Lib.hid hK; have HBK := Lib.hid (HB6.out.trans (hbx.mono HB6.out.size))
      clear hbx hK
      go_wp2_with fail
      refine (IdF.parseId s _ (by omega)).mono ?_
      rintro e w7 ⟨hQ, hb7⟩
      have hQ' : e = .returned (.tuple #[idV 0 0 0, .bool false]) := by
        rcases hQ with ⟨x', y', z', hy, _⟩ | ⟨_, rfl⟩
        · exact absurd ⟨x', y', z', (yes_iff _ _ _ _).1 hy⟩ hno
        · rfl
      subst hQ'
      obtain ⟨k0, k1, k2, _, _, _⟩ := (HK.out.below hb7).cells
      have hlt := (HK.out.below hb7).lt
      have HB7 := Lib.hid (HBK.out.trans (hb7.mono HBK.out.size))
      have heq := eqlId 0 0 0
      clear hb7 hQ hno
      go_wp2_with fail
      go_ret
      exact ⟨rfl, HB7.out.alloc HB7.out.size _⟩
end Go.Proofs.YtmimkgfkicgfiaaDoor.IdG
