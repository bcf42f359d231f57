/- The input's reading: a message. -/
import Derived.Test.YtnphnaggamfoiaaC0
import Derived.Test.YtnphnaggamfoiaaArgs
import Derived.Deep.Slices
namespace Go.Proofs.Ytnphnaggamfoiaa
open Go.RowKit Go.WideShapes Go.ChangeShapes
set_option maxRecDepth 20000
set_option linter.unusedVariables false
set_option linter.unusedSimpArgs false

theorem ent_cells : Try.prog.cellsOf 46 = 4 := by kernel_rfl
theorem snap_cells : Try.prog.cellsOf 25 = 4 := by kernel_rfl
theorem post_cells : Try.prog.cellsOf 27 = 14 := by kernel_rfl
theorem cint_cells : Try.prog.cellsOf 3 = 1 := by kernel_rfl
theorem cbool_cells : Try.prog.cellsOf 4 = 1 := by kernel_rfl
theorem crow_cells : Try.prog.cellsOf 23 = 1 := by kernel_rfl
theorem cents_cells : Try.prog.cellsOf 22 = 1 := by kernel_rfl

theorem weights_all {H : Type} {P : Program} {e : TypeId} : ∀ {l : List (DataW H)} {d : DataW H}, d ∈ l → ∀ n ∈ d.weights P e, n ∈ DataW.weightsAll P e l
  | x :: l, d, h, n, hn => by
    simp only [DataW.weightsAll, List.mem_append]
    rcases List.mem_cons.1 h with rfl | h
    · exact .inl hn
    · exact .inr (weights_all h n hn)
def I64 (n : Int) : Prop := -9223372036854775808 ≤ n ∧ n < 9223372036854775808

theorem open_entry {H : Type} {enc : TypeId × Value → H} {W : World} {sp : Nat → Bool} {held : Bool} {fuel : Nat} {cs : List Value} {x : DataW H × List MemPlace} (hf : DataW.trod enc Try.prog W 0 sp held fuel 46 cs = some x)
    (hz : ∀ n ∈ x.1.weights Try.prog 46, n ≤ reachBytes) : ∃ y : En, cs = y.cells ∧ y.ok W (fun i => i < W.heap.size) ∧ I64 y.te ∧ I64 y.ix ∧ I64 y.ki ∧ Byt y.bs := by
  obtain ⟨xs, m, _, rfl, hl, hxl, hfs⟩ := DataW.trod_struct Try.underlying46 hf
  rw [ent_cells] at hl
  have g0 := hfs 0 _ rfl
  have g1 := hfs 1 _ rfl
  have g2 := hfs 2 _ rfl
  have g3 := hfs 3 _ rfl
  match cs, hl with
  | [c0, c1, c2, c3], _ =>
    match xs, hxl with
    | [y0, y1, y2, y3], _ =>
      simp [cint_cells, crow_cells] at g0 g1 g2 g3
      obtain ⟨a, e0, _, w0⟩ := DataW.trod_int Try.underlying3 g0
      obtain ⟨b, e1, _, w1⟩ := DataW.trod_int Try.underlying3 g1
      obtain ⟨c, e2, _, w2⟩ := DataW.trod_int Try.underlying3 g2
      obtain ⟨A, c', bs, e3, hb, hbl, hr⟩ := open_bytes_f g3 (fun n hn => hz n (by simp only [DataW.weights, Try.underlying46]; simp [DataW.weightsEach, hn]))
      simp at e0 e1 e2 e3
      subst e0 e1 e2 e3
      exact ⟨⟨a, b, c, A, c', bs⟩, rfl, ⟨hr, hbl⟩, i64_wf w0, i64_wf w1, i64_wf w2, hb⟩

/-- A list of entries, as an argument reads. -/
structure EnsRd (W : World) (v : Value) (n : Nat) (l : List En) : Prop where
  len : l.length = n
  most : n ≤ 140737488351232
  rd : Rd W (fun i => i < W.heap.size) 4 v n (rowE l)
  each : ∀ x ∈ l, x.ok W (fun i => i < W.heap.size) ∧ I64 x.te ∧ I64 x.ix ∧ I64 x.ki ∧ Byt x.bs

theorem ent_bytes : Try.prog.bytesOf 46 = 48 := by kernel_rfl
theorem open_entries_f {H : Type} {enc : TypeId × Value → H} {W : World} {sp : Nat → Bool} {held : Bool} {fuel : Nat} {cs : List Value} {x : DataW H × List MemPlace} (hf : DataW.trod enc Try.prog W 0 sp held fuel 22 cs = some x)
    (hz : ∀ n ∈ x.1.weights Try.prog 22, n ≤ reachBytes) : ∃ A n c l, cs = [.slice A n c] ∧ EnsRd W (.slice A n c) n l := by
  rcases Go.Deep.open_slice Try.underlying22 hf with ⟨hcs, hx⟩ | ⟨a, len, cap, m, n, D, Pl, hcs, _, hl, hm, hmm, hx, hel⟩
  · exact ⟨none, 0, 0, [], hcs, rfl, by omega, Rd.nil _ _ _, fun x hx => by simp at hx⟩
  · subst hx
    have hm' := hm
    unfold maxLen at hm'
    have hlm : len ≤ m := by rw [hmm]; split <;> omega
    have hw := hz _ (by simp only [DataW.weights, Try.underlying22]; exact List.mem_cons_self)
    rw [ent_bytes] at hw
    simp only [List.length_append, List.length_map, List.length_range, reachBytes] at hw
    have hsp : 0 < len → a.spot = none := by
      intro h0
      obtain ⟨cs', hc, hd⟩ := hel 0 (by omega)
      rw [ent_cells] at hc
      obtain ⟨hcl, hcj⟩ := cells_at hc
      have h := (cell_spot (hcj 0 (by omega))).1
      simpa [Addr.add] using h
    have each : ∀ i, i < len → ∃ y : En, (y.ok W (fun i => i < W.heap.size) ∧ I64 y.te ∧ I64 y.ix ∧ I64 y.ki ∧ Byt y.bs) ∧ ∃ g o, a = ⟨g, o, none⟩ ∧ g < W.heap.size ∧ ∀ j u, y.cells[j]? = some u → W.cell? ⟨g, o + (i * 4 + j), none⟩ = some u := by
      intro i hi
      obtain ⟨cs', hc, hd⟩ := hel i (by omega)
      rw [ent_cells] at hc
      obtain ⟨hcl, hcj⟩ := cells_at hc
      obtain ⟨y, hy, hw⟩ := open_entry hd (fun n hn => hz n (by
        simp only [DataW.weights, Try.underlying22]
        refine List.mem_cons_of_mem _ (List.mem_append_left _ (weights_all (List.mem_map.2 ⟨i, by simpa using hi, rfl⟩) n hn))))
      subst hy
      obtain ⟨g, o, s⟩ := a
      have hs : s = none := hsp (by omega)
      subst hs
      have c0 := hcj 0 (by simp)
      rw [addr_add] at c0
      refine ⟨y, hw, g, o, rfl, (cell_spot c0).2, fun j u hu => ?_⟩
      have hj : j < y.cells.length := (List.getElem?_eq_some_iff.1 hu).1
      have h := hcj j hj
      rw [addr_add, addr_add] at h
      rw [show o + (i * 4 + j) = o + i * 4 + j from by omega, h]
      rw [List.getElem?_eq_getElem hj] at hu
      exact hu
    obtain ⟨l, hll, hq⟩ := list_of _ len each
    refine ⟨some a, len, cap, l, hcs, hll, by omega, ⟨by rw [rowE_length, hll], some a, cap, rfl, hl, hm, fun hn => ?_⟩, fun x hx => ?_⟩
    · obtain ⟨_, g, o, ha, hg, _⟩ := hq 0 (by omega)
      refine ⟨g, o, by rw [ha], hg, fun j u hu => ?_⟩
      have hj : j < l.length * 4 := by have := (List.getElem?_eq_some_iff.1 hu).1; rwa [rowE_length] at this
      have hi : j / 4 < l.length := by omega
      obtain ⟨_, g', o', ha', _, hc⟩ := hq (j / 4) hi
      rw [ha] at ha'
      injection ha' with e1 e2
      subst e1 e2
      have e : j / 4 * 4 + j % 4 = j := by omega
      have h := rowE_at l (j / 4) hi (j % 4) (by omega)
      rw [e, hu] at h
      have := hc (j % 4) u h.symm
      rwa [e] at this
    · obtain ⟨i, hi, rfl⟩ := List.getElem_of_mem hx
      exact (hq i hi).1

theorem open_snap {H : Type} {enc : TypeId × Value → H} {W : World} {sp : Nat → Bool} {held : Bool} {fuel : Nat} {cs : List Value} {x : DataW H × List MemPlace} (hf : DataW.trod enc Try.prog W 0 sp held fuel 25 cs = some x)
    (hz : ∀ n ∈ x.1.weights Try.prog 25, n ≤ reachBytes) : ∃ (a b c : Int) (A : Option Addr) (k : Nat) (bs : List Int), cs = [.int .i64 a, .int .i64 b, .int .i64 c, .slice A bs.length k] ∧ I64 a ∧ I64 b ∧ I64 c ∧ Byt bs ∧ bs.length ≤ 140737488351232 ∧ Rd W (fun i => i < W.heap.size) 1 (.slice A bs.length k) bs.length (bts bs) := by
  obtain ⟨xs, m, _, rfl, hl, hxl, hfs⟩ := DataW.trod_struct Try.underlying25 hf
  rw [snap_cells] at hl
  have g0 := hfs 0 _ rfl
  have g1 := hfs 1 _ rfl
  have g2 := hfs 2 _ rfl
  have g3 := hfs 3 _ rfl
  match cs, hl with
  | [c0, c1, c2, c3], _ =>
    match xs, hxl with
    | [y0, y1, y2, y3], _ =>
      simp [cint_cells, crow_cells] at g0 g1 g2 g3
      obtain ⟨a, e0, _, w0⟩ := DataW.trod_int Try.underlying3 g0
      obtain ⟨b, e1, _, w1⟩ := DataW.trod_int Try.underlying3 g1
      obtain ⟨c, e2, _, w2⟩ := DataW.trod_int Try.underlying3 g2
      obtain ⟨A, c', bs, e3, hb, hbl, hr⟩ := open_bytes_f g3 (fun n hn => hz n (by simp only [DataW.weights, Try.underlying25]; simp [DataW.weightsEach, hn]))
      simp at e0 e1 e2 e3
      subst e0 e1 e2 e3
      exact ⟨a, b, c, A, c', bs, rfl, i64_wf w0, i64_wf w1, i64_wf w2, hb, hbl, hr⟩

/-- A message, as an argument reads: its entries l, its snapshot's data bs. -/
structure PoRd (W : World) (p : Po) (l : List En) (bs : List Int) : Prop where
  ints : I64 p.kd ∧ I64 p.fr ∧ I64 p.to ∧ I64 p.te ∧ I64 p.ix ∧ I64 p.lt ∧ I64 p.co ∧ I64 p.hi ∧ I64 p.si ∧ I64 p.st ∧ I64 p.sc
  ents : EnsRd W (.slice p.EA p.en p.ec) p.en l
  dlen : bs.length = p.sn
  dmost : p.sn ≤ 140737488351232
  data : Rd W (fun i => i < W.heap.size) 1 (.slice p.SA p.sn p.sk) p.sn (bts bs)
  byt : Byt bs

theorem open_post {H : Type} {enc : TypeId × Value → H} {W : World} {base : Nat} {sp : Nat → Bool} {held : Bool} {v : Value} {d : DataW H} {pl : List MemPlace} (hv : Value.okWide Try.prog W .any base 27 v) (ht : DataW.Trod enc Try.prog W 0 sp held 27 v d pl)
    (hz : ∀ n ∈ d.weights Try.prog 27, n ≤ reachBytes) : ∃ p l bs, v = Po.v p ∧ PoRd W p l bs := by
  simp only [Value.okWide, Try.underlying27] at hv
  obtain ⟨cs, rfl, hsz, _⟩ := hv
  obtain ⟨cs⟩ := cs
  rw [post_cells] at hsz
  obtain ⟨fuel, hf⟩ := ht
  obtain ⟨xs, m, _, hdp, hl, hxl, hfs⟩ := DataW.trod_struct Try.underlying27 hf
  simp only [Prod.mk.injEq] at hdp
  obtain ⟨rfl, _⟩ := hdp
  have g0 := hfs 0 _ rfl
  have g1 := hfs 1 _ rfl
  have g2 := hfs 2 _ rfl
  have g3 := hfs 3 _ rfl
  have g4 := hfs 4 _ rfl
  have g5 := hfs 5 _ rfl
  have g6 := hfs 6 _ rfl
  have g7 := hfs 7 _ rfl
  have g8 := hfs 8 _ rfl
  have g9 := hfs 9 _ rfl
  have g10 := hfs 10 _ rfl
  match cs, hsz with
  | [c0, c1, c2, c3, c4, c5, c6, c7, c8, c9, c10, c11, c12, c13], _ =>
    match xs, hxl with
    | [y0, y1, y2, y3, y4, y5, y6, y7, y8, y9, y10], _ =>
      simp [cint_cells, cbool_cells, crow_cells, cents_cells, snap_cells, Value.cells] at g0 g1 g2 g3 g4 g5 g6 g7 g8 g9 g10
      obtain ⟨a0, e0, _, w0⟩ := DataW.trod_int Try.underlying3 g0
      obtain ⟨a1, e1, _, w1⟩ := DataW.trod_int Try.underlying3 g1
      obtain ⟨a2, e2, _, w2⟩ := DataW.trod_int Try.underlying3 g2
      obtain ⟨a3, e3, _, w3⟩ := DataW.trod_int Try.underlying3 g3
      obtain ⟨a4, e4, _, w4⟩ := DataW.trod_int Try.underlying3 g4
      obtain ⟨a5, e5, _, w5⟩ := DataW.trod_int Try.underlying3 g5
      obtain ⟨a6, e6, _, w6⟩ := DataW.trod_int Try.underlying3 g6
      obtain ⟨a7, e7, _⟩ := DataW.trod_bool Try.underlying4 g7
      obtain ⟨a8, e8, _, w8⟩ := DataW.trod_int Try.underlying3 g8
      obtain ⟨EA, en, ec, l, e9, hens⟩ := open_entries_f g9 (fun n hn => hz n (by simp only [DataW.weights, Try.underlying27]; simp [DataW.weightsEach, hn]))
      obtain ⟨a, b, c, A, k, bs, e10, i1, i2, i3, hb, hbl, hr⟩ := open_snap g10 (fun n hn => hz n (by simp only [DataW.weights, Try.underlying27]; simp [DataW.weightsEach, hn]))
      simp at e0 e1 e2 e3 e4 e5 e6 e7 e8 e9 e10
      obtain ⟨e10, e11, e12, e13⟩ := e10
      subst e0 e1 e2 e3 e4 e5 e6 e7 e8 e9 e10 e11 e12 e13
      exact ⟨⟨a0, a1, a2, a3, a4, a5, a6, a7, a8, EA, en, ec, a, b, c, A, bs.length, k⟩, l, bs, rfl, ⟨i64_wf w0, i64_wf w1, i64_wf w2, i64_wf w3, i64_wf w4, i64_wf w5, i64_wf w6, i64_wf w8, i1, i2, i3⟩, hens, rfl, hbl, hr, hb⟩
end Go.Proofs.Ytnphnaggamfoiaa
