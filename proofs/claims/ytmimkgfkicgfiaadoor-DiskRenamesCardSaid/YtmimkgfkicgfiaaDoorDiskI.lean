/-
  The walk of bollardlaw07.DiskRenames.
-/
import Derived.Test.YtmimkgfkicgfiaaDoorDiskH
import Derived.LoopN
namespace Go.Proofs.YtmimkgfkicgfiaaDoor.DiskI
open Go.RowKit Go.Proofs.YtmimkgfkicgfiaaDoor Go.Proofs.YtmimkgfkicgfiaaDoor.Dw Go.Proofs.YtmimkgfkicgfiaaDoor.DiskB Go.Proofs.YtmimkgfkicgfiaaDoor.DiskC Go.Proofs.YtmimkgfkicgfiaaDoor.DiskH

/-- an argument's bytes stay while new blocks turn -/
theorem hfw {w w' : World} {a : Option Addr} {l : List UInt8} {c : Nat} (b : Nat) (h : BsIn b w a l c) (hk : Keep [b] w w') : Bs 0 w' a l c := by
  refine ⟨h.1.1, h.1.2.1, ?_⟩
  rcases h.2 with h0 | ⟨g, o, h1, h2, h3, h4⟩
  · exact .inl h0
  · exact .inr ⟨g, o, h1, Nat.zero_le _, Nat.lt_of_lt_of_le h3 hk.size, fun j x hx => (hk.cell (p := ⟨g, o + j, none⟩) h3 (by simp; omega)).trans (h4 j x hx)⟩


set_option maxHeartbeats 8000000 in
set_option maxRecDepth 100000 in
theorem renames0 (x0 : Option Addr) (o : List UInt8) (z0 : Nat) (x1 : Option Addr) (f : List UInt8) (z1 : Nat) (n r : Int) (w : World) {aN aF aG : Addr} (he : Errs w aN aF aG) (ho : Bs 0 w x0 o z0) (hf : Bs 0 w x1 f z1) (hlo : o.length ≤ 140737488351232) (_hlf : f.length ≤ 140737488351232)
    (hn : n.tmod 4 = r) (hr0 : 0 ≤ r + 4) (hr1 : r ≤ 3) (hk : (r + 4) % 4 = 0) :
    Calls Tryd.prog 8 #[.slice x0 o.length z0, .slice x1 f.length z1, .int .i64 n] w fun e w' => e = .returned (.bool true) ∧ Below w.heap.size w w' := by
  have hq := Lib.hid he.lt
  have hr2 : r + 4 ≤ 9223372036854775807 := by omega
  have hr3 : r ≤ 9223372036854775807 := by omega
  have hr4 : -9223372036854775808 ≤ r := by omega
  go_enter Tryd.func8, Tryd.ntmps8
  go_wp2_with fail
  refine (DiskG.alive _ he).mono ?_
  rintro e w0 ⟨rfl, hb0⟩
  have he0 := he.below hb0
  have TL := Lib.hid (show ∀ k ∈ [w0.heap.size], top < k by have := he0.lt; simpa using this)
  have hq0 := Lib.hid he0.lt
  go_wp2_with fail
  refine (DiskB.new _ hq0.out).mono ?_
  rintro e w1 ⟨rfl, hd1, hb1⟩
  have he1 := he0.below hb1
  have ho0 : BsIn w0.heap.size w0 x0 o z0 := BsIn.mk (ho.below hb0)
  have hf0 : BsIn w0.heap.size w0 x1 f z1 := BsIn.mk (hf.below hb0)
  have ho1 := (ho.below hb0).below hb1
  have B1 := Keep.of_below hb1 [w0.heap.size]
  go_wp2_with fail
  refine (DiskH.write bF o DiskH.a0 (DiskH.b0 o) (by decide) hlo (by decide) hd1 he1 ho1).mono ?_
  rintro e w2 ⟨rfl, hd2, hk2⟩
  have he2 := he1.keep hk2 TL.out
  go_wp2_with fail
  refine (DiskH.sync bF (DiskH.a1 o) (DiskH.b1 o) (by decide) (by simp [q0]) hd2 he2).mono ?_
  rintro e w3 ⟨rfl, hd3, hk3⟩
  have he3 := he2.keep hk3 TL.out
  have K3 := (hk2.trans hk3)
  clear hd1 hd2 he1 he2 hk2 hk3
  go_wp2_with fail
  refine wp_loop_rounds 2 ?_
  rw [rounds_succ]
  go_wp2_with fail
  refine (DiskH.crash (DiskH.c0 o) (by simp [p0]) (by simp [p0]; decide) hd3).mono ?_
  rintro e w4 ⟨rfl, hd4, hk4⟩
  have he4 := he3.keep hk4 TL.out
  have K4 := K3.trans hk4
  clear hd3 he3
  go_wp2_with fail
  refine (DiskH.crash (DiskH.c0 o) (by simp [p0]) (by simp [p0]; decide) hd4).mono ?_
  rintro e w5 ⟨rfl, hd5, hk5⟩
  have he5 := he4.keep hk5 TL.out
  have K5 := K4.trans hk5
  clear hd4 he4
  go_wp2_with fail
  refine (DiskH.read bF o (DiskH.d0 o) (DiskH.r0 o) (by decide) (by simp [p0]; exact hlo) hd5 he5).mono ?_
  rintro e w6 ⟨⟨ya, yc, rfl, hbs6⟩, hb6⟩
  have k1 := DiskG.to_string hbs6
  have k2 := DiskG.to_string ((hfw w0.heap.size ho0 (B1.trans K5)).below hb6)
  have BB := Keep.below hb0 ((B1.trans K5).trans (Keep.of_below hb6 _)) (by simp; exact hb0.size)
  go_wp2
  go_ret
  exact ⟨rfl, BB⟩


set_option maxHeartbeats 8000000 in
set_option maxRecDepth 100000 in
theorem renames1 (x0 : Option Addr) (o : List UInt8) (z0 : Nat) (x1 : Option Addr) (f : List UInt8) (z1 : Nat) (n r : Int) (w : World) {aN aF aG : Addr} (he : Errs w aN aF aG) (ho : Bs 0 w x0 o z0) (hf : Bs 0 w x1 f z1) (hlo : o.length ≤ 140737488351232) (hlf : f.length ≤ 140737488351232)
    (hn : n.tmod 4 = r) (hr0 : 0 ≤ r + 4) (hr1 : r ≤ 3) (hk : (r + 4) % 4 = 1) :
    Calls Tryd.prog 8 #[.slice x0 o.length z0, .slice x1 f.length z1, .int .i64 n] w fun e w' => e = .returned (.bool true) ∧ Below w.heap.size w w' := by
  have hq := Lib.hid he.lt
  have hr2 : r + 4 ≤ 9223372036854775807 := by omega
  have hr3 : r ≤ 9223372036854775807 := by omega
  have hr4 : -9223372036854775808 ≤ r := by omega
  go_enter Tryd.func8, Tryd.ntmps8
  go_wp2_with fail
  refine (DiskG.alive _ he).mono ?_
  rintro e w0 ⟨rfl, hb0⟩
  have he0 := he.below hb0
  have TL := Lib.hid (show ∀ k ∈ [w0.heap.size], top < k by have := he0.lt; simpa using this)
  have hq0 := Lib.hid he0.lt
  go_wp2_with fail
  refine (DiskB.new _ hq0.out).mono ?_
  rintro e w1 ⟨rfl, hd1, hb1⟩
  have he1 := he0.below hb1
  have ho0 : BsIn w0.heap.size w0 x0 o z0 := BsIn.mk (ho.below hb0)
  have hf0 : BsIn w0.heap.size w0 x1 f z1 := BsIn.mk (hf.below hb0)
  have ho1 := (ho.below hb0).below hb1
  have B1 := Keep.of_below hb1 [w0.heap.size]
  go_wp2_with fail
  refine (DiskH.write bF o DiskH.a0 (DiskH.b0 o) (by decide) hlo (by decide) hd1 he1 ho1).mono ?_
  rintro e w2 ⟨rfl, hd2, hk2⟩
  have he2 := he1.keep hk2 TL.out
  go_wp2_with fail
  refine (DiskH.sync bF (DiskH.a1 o) (DiskH.b1 o) (by decide) (by simp [q0]) hd2 he2).mono ?_
  rintro e w3 ⟨rfl, hd3, hk3⟩
  have he3 := he2.keep hk3 TL.out
  have K3 := (hk2.trans hk3)
  clear hd1 hd2 he1 he2 hk2 hk3
  go_wp2_with fail
  refine wp_loop_rounds 3 ?_
  rw [rounds_succ]
  go_wp2_with fail
  refine (DiskH.write bT f (DiskH.a2 o) (DiskH.b2 o f) (by decide) hlf (by simp [p0]) hd3 he3 (hfw w0.heap.size hf0 (B1.trans K3))).mono ?_
  rintro e w4 ⟨rfl, hd4, hk4⟩
  have he4 := he3.keep hk4 TL.out
  have K4 := K3.trans hk4
  clear hd3 he3
  go_wp2_with fail
  rw [rounds_succ]
  go_wp2_with fail
  refine (DiskH.crash (DiskH.c1 o f) (by simp [p1]) (by simp [p1]; decide) hd4).mono ?_
  rintro e w5 ⟨rfl, hd5, hk5⟩
  have he5 := he4.keep hk5 TL.out
  have K5 := K4.trans hk5
  clear hd4 he4
  go_wp2_with fail
  refine (DiskH.crash (DiskH.c0 o) (by simp [p0]) (by simp [p0]; decide) hd5).mono ?_
  rintro e w6 ⟨rfl, hd6, hk6⟩
  have he6 := he5.keep hk6 TL.out
  have K6 := K5.trans hk6
  clear hd5 he5
  go_wp2_with fail
  refine (DiskH.read bF o (DiskH.d0 o) (DiskH.r0 o) (by decide) (by simp [p0]; exact hlo) hd6 he6).mono ?_
  rintro e w7 ⟨⟨ya, yc, rfl, hbs7⟩, hb7⟩
  have k1 := DiskG.to_string hbs7
  have k2 := DiskG.to_string ((hfw w0.heap.size ho0 (B1.trans K6)).below hb7)
  have BB := Keep.below hb0 ((B1.trans K6).trans (Keep.of_below hb7 _)) (by simp; exact hb0.size)
  go_wp2
  go_ret
  exact ⟨rfl, BB⟩


set_option maxHeartbeats 8000000 in
set_option maxRecDepth 100000 in
theorem renames2 (x0 : Option Addr) (o : List UInt8) (z0 : Nat) (x1 : Option Addr) (f : List UInt8) (z1 : Nat) (n r : Int) (w : World) {aN aF aG : Addr} (he : Errs w aN aF aG) (ho : Bs 0 w x0 o z0) (hf : Bs 0 w x1 f z1) (hlo : o.length ≤ 140737488351232) (hlf : f.length ≤ 140737488351232)
    (hn : n.tmod 4 = r) (hr0 : 0 ≤ r + 4) (hr1 : r ≤ 3) (hk : (r + 4) % 4 = 2) :
    Calls Tryd.prog 8 #[.slice x0 o.length z0, .slice x1 f.length z1, .int .i64 n] w fun e w' => e = .returned (.bool true) ∧ Below w.heap.size w w' := by
  have hq := Lib.hid he.lt
  have hr2 : r + 4 ≤ 9223372036854775807 := by omega
  have hr3 : r ≤ 9223372036854775807 := by omega
  have hr4 : -9223372036854775808 ≤ r := by omega
  go_enter Tryd.func8, Tryd.ntmps8
  go_wp2_with fail
  refine (DiskG.alive _ he).mono ?_
  rintro e w0 ⟨rfl, hb0⟩
  have he0 := he.below hb0
  have TL := Lib.hid (show ∀ k ∈ [w0.heap.size], top < k by have := he0.lt; simpa using this)
  have hq0 := Lib.hid he0.lt
  go_wp2_with fail
  refine (DiskB.new _ hq0.out).mono ?_
  rintro e w1 ⟨rfl, hd1, hb1⟩
  have he1 := he0.below hb1
  have ho0 : BsIn w0.heap.size w0 x0 o z0 := BsIn.mk (ho.below hb0)
  have hf0 : BsIn w0.heap.size w0 x1 f z1 := BsIn.mk (hf.below hb0)
  have ho1 := (ho.below hb0).below hb1
  have B1 := Keep.of_below hb1 [w0.heap.size]
  go_wp2_with fail
  refine (DiskH.write bF o DiskH.a0 (DiskH.b0 o) (by decide) hlo (by decide) hd1 he1 ho1).mono ?_
  rintro e w2 ⟨rfl, hd2, hk2⟩
  have he2 := he1.keep hk2 TL.out
  go_wp2_with fail
  refine (DiskH.sync bF (DiskH.a1 o) (DiskH.b1 o) (by decide) (by simp [q0]) hd2 he2).mono ?_
  rintro e w3 ⟨rfl, hd3, hk3⟩
  have he3 := he2.keep hk3 TL.out
  have K3 := (hk2.trans hk3)
  clear hd1 hd2 he1 he2 hk2 hk3
  go_wp2_with fail
  refine wp_loop_rounds 4 ?_
  rw [rounds_succ]
  go_wp2_with fail
  refine (DiskH.write bT f (DiskH.a2 o) (DiskH.b2 o f) (by decide) hlf (by simp [p0]) hd3 he3 (hfw w0.heap.size hf0 (B1.trans K3))).mono ?_
  rintro e w4 ⟨rfl, hd4, hk4⟩
  have he4 := he3.keep hk4 TL.out
  have K4 := K3.trans hk4
  clear hd3 he3
  go_wp2_with fail
  rw [rounds_succ]
  go_wp2_with fail
  refine (DiskH.sync bT (DiskH.a3 o f) (DiskH.b3 o f) (by decide) (by simp [p1]) hd4 he4).mono ?_
  rintro e w5 ⟨rfl, hd5, hk5⟩
  have he5 := he4.keep hk5 TL.out
  have K5 := K4.trans hk5
  clear hd4 he4
  go_wp2_with fail
  rw [rounds_succ]
  go_wp2_with fail
  refine (DiskH.crash (DiskH.c2 o f) (by simp [p2]) (by simp [p2]; decide) hd5).mono ?_
  rintro e w6 ⟨rfl, hd6, hk6⟩
  have he6 := he5.keep hk6 TL.out
  have K6 := K5.trans hk6
  clear hd5 he5
  go_wp2_with fail
  refine (DiskH.crash (DiskH.c2 o f) (by simp [p2]) (by simp [p2]; decide) hd6).mono ?_
  rintro e w7 ⟨rfl, hd7, hk7⟩
  have he7 := he6.keep hk7 TL.out
  have K7 := K6.trans hk7
  clear hd6 he6
  go_wp2_with fail
  refine (DiskH.read bF o (DiskH.d2 o f) (DiskH.r2 o f) (by decide) (by simp [p2]; exact ⟨hlo, hlf⟩) hd7 he7).mono ?_
  rintro e w8 ⟨⟨ya, yc, rfl, hbs8⟩, hb8⟩
  have k1 := DiskG.to_string hbs8
  have k2 := DiskG.to_string ((hfw w0.heap.size ho0 (B1.trans K7)).below hb8)
  have BB := Keep.below hb0 ((B1.trans K7).trans (Keep.of_below hb8 _)) (by simp; exact hb0.size)
  go_wp2
  go_ret
  exact ⟨rfl, BB⟩


set_option maxHeartbeats 8000000 in
set_option maxRecDepth 100000 in
theorem renames3 (x0 : Option Addr) (o : List UInt8) (z0 : Nat) (x1 : Option Addr) (f : List UInt8) (z1 : Nat) (n r : Int) (w : World) {aN aF aG : Addr} (he : Errs w aN aF aG) (ho : Bs 0 w x0 o z0) (hf : Bs 0 w x1 f z1) (hlo : o.length ≤ 140737488351232) (hlf : f.length ≤ 140737488351232)
    (hn : n.tmod 4 = r) (hr0 : 0 ≤ r + 4) (hr1 : r ≤ 3) (hk : (r + 4) % 4 = 3) :
    Calls Tryd.prog 8 #[.slice x0 o.length z0, .slice x1 f.length z1, .int .i64 n] w fun e w' => e = .returned (.bool true) ∧ Below w.heap.size w w' := by
  have hq := Lib.hid he.lt
  have hr2 : r + 4 ≤ 9223372036854775807 := by omega
  have hr3 : r ≤ 9223372036854775807 := by omega
  have hr4 : -9223372036854775808 ≤ r := by omega
  go_enter Tryd.func8, Tryd.ntmps8
  go_wp2_with fail
  refine (DiskG.alive _ he).mono ?_
  rintro e w0 ⟨rfl, hb0⟩
  have he0 := he.below hb0
  have TL := Lib.hid (show ∀ k ∈ [w0.heap.size], top < k by have := he0.lt; simpa using this)
  have hq0 := Lib.hid he0.lt
  go_wp2_with fail
  refine (DiskB.new _ hq0.out).mono ?_
  rintro e w1 ⟨rfl, hd1, hb1⟩
  have he1 := he0.below hb1
  have ho0 : BsIn w0.heap.size w0 x0 o z0 := BsIn.mk (ho.below hb0)
  have hf0 : BsIn w0.heap.size w0 x1 f z1 := BsIn.mk (hf.below hb0)
  have ho1 := (ho.below hb0).below hb1
  have B1 := Keep.of_below hb1 [w0.heap.size]
  go_wp2_with fail
  refine (DiskH.write bF o DiskH.a0 (DiskH.b0 o) (by decide) hlo (by decide) hd1 he1 ho1).mono ?_
  rintro e w2 ⟨rfl, hd2, hk2⟩
  have he2 := he1.keep hk2 TL.out
  go_wp2_with fail
  refine (DiskH.sync bF (DiskH.a1 o) (DiskH.b1 o) (by decide) (by simp [q0]) hd2 he2).mono ?_
  rintro e w3 ⟨rfl, hd3, hk3⟩
  have he3 := he2.keep hk3 TL.out
  have K3 := (hk2.trans hk3)
  clear hd1 hd2 he1 he2 hk2 hk3
  go_wp2_with fail
  refine wp_loop_rounds 4 ?_
  rw [rounds_succ]
  go_wp2_with fail
  refine (DiskH.write bT f (DiskH.a2 o) (DiskH.b2 o f) (by decide) hlf (by simp [p0]) hd3 he3 (hfw w0.heap.size hf0 (B1.trans K3))).mono ?_
  rintro e w4 ⟨rfl, hd4, hk4⟩
  have he4 := he3.keep hk4 TL.out
  have K4 := K3.trans hk4
  clear hd3 he3
  go_wp2_with fail
  rw [rounds_succ]
  go_wp2_with fail
  refine (DiskH.sync bT (DiskH.a3 o f) (DiskH.b3 o f) (by decide) (by simp [p1]) hd4 he4).mono ?_
  rintro e w5 ⟨rfl, hd5, hk5⟩
  have he5 := he4.keep hk5 TL.out
  have K5 := K4.trans hk5
  clear hd4 he4
  go_wp2_with fail
  rw [rounds_succ]
  go_wp2_with fail
  refine (DiskH.rename bT bF (DiskH.a4 o f) (DiskH.b4 o f) (by decide) (by decide) (by simp [p2]) hd5 he5).mono ?_
  rintro e w6 ⟨rfl, hd6, hk6⟩
  have he6 := he5.keep hk6 TL.out
  have K6 := K5.trans hk6
  clear hd5 he5
  go_wp2_with fail
  rw [rounds_succ]
  go_wp2_with fail
  refine (DiskH.crash (DiskH.c0 f) (by simp [p0]) (by simp [p0]; decide) hd6).mono ?_
  rintro e w7 ⟨rfl, hd7, hk7⟩
  have he7 := he6.keep hk7 TL.out
  have K7 := K6.trans hk7
  clear hd6 he6
  go_wp2_with fail
  refine (DiskH.read bF f (DiskH.d0 f) (DiskH.r0 f) (by decide) (by simp [p0]; exact hlf) hd7 he7).mono ?_
  rintro e w8 ⟨⟨ya, yc, rfl, hbs8⟩, hb8⟩
  have k1 := DiskG.to_string hbs8
  have k2 := DiskG.to_string ((hfw w0.heap.size hf0 (B1.trans K7)).below hb8)
  have BB := Keep.below hb0 ((B1.trans K7).trans (Keep.of_below hb8 _)) (by simp; exact hb0.size)
  go_wp2
  go_ret
  exact ⟨rfl, BB⟩

end Go.Proofs.YtmimkgfkicgfiaaDoor.DiskI
