/-
  A script that came in.
-/
import Derived.Test.YtmimkgfkicgfiaaDoorDiskJ
import Derived.Test.YtmimkgfkicgfiaaDoorDiskL
namespace Go.Proofs.YtmimkgfkicgfiaaDoor.DiskM
open Go.ChangeShapes Go.WideShapes Go.ChangeAt Go.RowKit Go.Proofs.YtmimkgfkicgfiaaDoor Go.Proofs.YtmimkgfkicgfiaaDoor.Dw

theorem weights_all {H : Type} {P : Program} {e : TypeId} {n : Nat} {d : DataW H} : ∀ {l : List (DataW H)}, d ∈ l → n ∈ d.weights P e → n ∈ DataW.weightsAll P e l
  | x :: r, hd, hn => by
    simp only [DataW.weightsAll, List.mem_append]
    rcases List.mem_cons.1 hd with rfl | hd
    · exact .inl hn
    · exact .inr (weights_all hd hn)
theorem weights_elem {H : Type} {P : Program} {t e : TypeId} {n : Nat} {d : DataW H} {els sp : List (DataW H)} (hu : P.underlying t = some (.slice e)) (hd : d ∈ els) (hn : n ∈ d.weights P e) : n ∈ (DataW.slice els sp).weights P t := by
  simp only [DataW.weights, hu, List.mem_cons, List.mem_append]
  exact .inr (.inl (weights_all hd hn))
theorem weights_field {H : Type} {P : Program} {t tf : TypeId} {fs : Array Field} {n j : Nat} {d : DataW H} {parts : List (DataW H)} (hu : P.underlying t = some (.struct fs)) (hf : (fs.toList.map (·.type))[j]? = some tf) (hd : parts[j]? = some d) (hn : n ∈ d.weights P tf) : n ∈ (DataW.agg parts).weights P t := by
  simp only [DataW.weights, hu]
  exact DataW.weights_mem_each hf hd n hn
theorem weight_slice {H : Type} {P : Program} {t e : TypeId} {els sp : List (DataW H)} (hu : P.underlying t = some (.slice e)) : (els.length + sp.length) * P.bytesOf e ∈ (DataW.slice els sp).weights P t := by
  simp [DataW.weights, hu]

theorem bytesB : Tryd.prog.bytesOf 5 = 1 := by kernel_rfl
theorem bytesOp : 1 ≤ Tryd.prog.bytesOf 63 := by decide +kernel
theorem reach : reachBytes = 140737488351232 := by decide

/-- a script that came in -/
theorem open_script {H : Type} {enc : TypeId × Value → H} {W : World} {a : Option Addr} {len cap : Nat} {y : DataW H × List MemPlace} {n : Nat}
    (h : DataW.trod enc Tryd.prog W 0 (fun _ => true) true n 58 [.slice a len cap] = some y) (hz : ∀ m ∈ y.1.weights Tryd.prog 58, m ≤ reachBytes) :
    ∃ os : List DiskL.OpV, len = os.length ∧ DiskL.Script W.heap.size W a os ∧ os.length ≤ 140737488351232 := by
  rcases RowKit2.open_structs Tryd.underlying58 Tryd.underlying63 (by kernel_rfl) (by kernel_rfl) h with ⟨hcs, hx⟩ | ⟨ad, len', cap', m, D, Pl, hcs, hl, hm, hmm, hx, hi⟩
  · simp at hcs
    obtain ⟨rfl, rfl, rfl⟩ := hcs
    exact ⟨[], rfl, .inl rfl, by simp⟩
  · simp at hcs
    obtain ⟨rfl, rfl, rfl⟩ := hcs
    simp at hmm
    subst hmm hx
    have hlen : len ≤ 140737488351232 := by
      have := hz _ (weight_slice (els := (List.range len).map D) Tryd.underlying58)
      rw [reach] at this
      simp only [List.length_map, List.length_range] at this
      have h1 := bytesOp
      have h2 : len + (m - len) ≤ (len + (m - len)) * Tryd.prog.bytesOf 63 := Nat.le_mul_of_pos_right _ h1
      omega
    obtain ⟨os, hos, hp⟩ := RowKit2.list_of (p := fun i (op : DiskL.OpV) =>
      (W.cell? (ad.add (i * 6 + 0)) = some (.int .i64 op.kind) ∧ W.cell? (ad.add (i * 6 + 1)) = some (.int .i64 op.which) ∧ W.cell? (ad.add (i * 6 + 2)) = some (.int .i64 op.n) ∧
       W.cell? (ad.add (i * 6 + 3)) = some (.string op.name) ∧ W.cell? (ad.add (i * 6 + 4)) = some (.string op.to) ∧ W.cell? (ad.add (i * 6 + 5)) = some (.slice op.a op.l.length op.c)) ∧ BsIn W.heap.size W op.a op.l op.c ∧ op.l.length ≤ 140737488351232) len fun i hil => by
      obtain ⟨ys, k, hD, hyl, hf⟩ := hi i (by omega)
      obtain ⟨v0, y0, c0, e0, r0⟩ := hf 0 _ rfl
      obtain ⟨v1, y1, c1, e1, r1⟩ := hf 1 _ rfl
      obtain ⟨v2, y2, c2, e2, r2⟩ := hf 2 _ rfl
      obtain ⟨v3, y3, c3, e3, r3⟩ := hf 3 _ rfl
      obtain ⟨v4, y4, c4, e4, r4⟩ := hf 4 _ rfl
      obtain ⟨v5, y5, c5, e5, r5⟩ := hf 5 _ rfl
      obtain ⟨n0, q0, rfl, w0⟩ := DataW.trod_int Tryd.underlying3 r0
      obtain ⟨n1, q1, rfl, w1⟩ := DataW.trod_int Tryd.underlying3 r1
      obtain ⟨n2, q2, rfl, w2⟩ := DataW.trod_int Tryd.underlying3 r2
      obtain ⟨s3, q3, rfl, _⟩ := DataW.trod_string Tryd.underlying9 r3
      obtain ⟨s4, q4, rfl, _⟩ := DataW.trod_string Tryd.underlying9 r4
      obtain ⟨a5, l5, z5, rfl, hb5, h5⟩ := DiskJ.open_bytes r5
      obtain rfl : v0 = .int .i64 n0 := by simpa using q0
      obtain rfl : v1 = .int .i64 n1 := by simpa using q1
      obtain rfl : v2 = .int .i64 n2 := by simpa using q2
      obtain rfl : v3 = .string s3 := by simpa using q3
      obtain rfl : v4 = .string s4 := by simpa using q4
      refine ⟨⟨n0, n1, n2, s3, s4, a5, l5, z5⟩, ⟨c0, c1, c2, c3, c4, c5⟩, BsIn.mk hb5, ?_⟩
      rcases h5 with ⟨_, h5⟩ | ⟨els, sp, h5, h6⟩
      · show l5.length ≤ _; rw [h5]; simp
      · have hw := hz _ (weights_elem (sp := (List.range (m - len)).map fun j => D (len + j)) Tryd.underlying58 (List.mem_map.2 ⟨i, List.mem_range.2 hil, rfl⟩)
          (by rw [hD]; exact weights_field (j := 5) (tf := 61) (d := .slice els sp) Tryd.underlying63 rfl (by rw [List.getElem?_map, e5, Option.map_some, h5]) (weight_slice Tryd.underlying61)))
        rw [reach, bytesB] at hw
        show l5.length ≤ _
        omega
    refine ⟨os, hos.symm, ?_, by omega⟩
    rcases Nat.eq_zero_or_pos os.length with h0 | h0
    · exact .inl (List.eq_nil_of_length_eq_zero h0)
    · obtain ⟨⟨hc0, _⟩, _⟩ := hp 0 os[0] (List.getElem?_eq_getElem h0)
      obtain ⟨b, off, spot⟩ := ad
      obtain rfl : spot = none := by simpa [Addr.add] using World.cell?_spot hc0
      have hbl : b < W.heap.size := World.block_lt_of_cell? W _ (by simpa [Addr.add] using hc0)
      refine .inr ⟨b, off, rfl, hbl, hbl, fun j op ho => ?_⟩
      obtain ⟨⟨c0, c1, c2, c3, c4, c5⟩, h6, h7⟩ := hp j op ho
      simp only [RowKit2.addr_add] at c0 c1 c2 c3 c4 c5
      refine ⟨⟨c0, ?_, ?_, ?_, ?_, ?_⟩, h6, h7⟩
      · rw [Nat.add_assoc]; exact c1
      · rw [Nat.add_assoc]; exact c2
      · rw [Nat.add_assoc]; exact c3
      · rw [Nat.add_assoc]; exact c4
      · rw [Nat.add_assoc]; exact c5
end Go.Proofs.YtmimkgfkicgfiaaDoor.DiskM
