/- The input's reading: a list of deeds. -/
import Derived.Test.YtekedgokmmkplaaH5
import Derived.Test.YtekedgokmmkplaaG0
import Derived.Deep.Slices
namespace Go.Proofs.Ytekedgokmmkplaa
open Go.RowKit Go.WideShapes Go.ChangeShapes
set_option maxRecDepth 20000
set_option linter.unusedVariables false
set_option linter.unusedSimpArgs false

structure De where
  kind : Int
  n : Int
  f : Int
  t : Int
  A : Option Addr
  c : Nat
  bs : List Int
/-- A deed reads as x: its cells at this place; its bytes. -/
def I64 (n : Int) : Prop := -9223372036854775808 ≤ n ∧ n < 9223372036854775808
def DeAt (W : World) (g o : Nat) (x : De) : Prop :=
  (I64 x.kind ∧ I64 x.n ∧ x.bs.length ≤ 140737488351232 ∧ Rd W (fun i => i < W.heap.size) 1 (.slice x.A x.bs.length x.c) x.bs.length (bts x.bs)) ∧
  W.cell? ⟨g, o, none⟩ = some (.int .i64 x.kind) ∧ W.cell? ⟨g, o + 1, none⟩ = some (.int .i64 x.n) ∧ W.cell? ⟨g, o + 2, none⟩ = some (.int .i64 x.f) ∧ W.cell? ⟨g, o + 3, none⟩ = some (.int .i64 x.t) ∧ W.cell? ⟨g, o + 4, none⟩ = some (.slice x.A x.bs.length x.c)

theorem deed_cells : Try.prog.cellsOf 32 = 5 := by kernel_rfl
theorem frame_cells : Try.prog.cellsOf 30 = 3 := by kernel_rfl
theorem dint_cells : Try.prog.cellsOf 3 = 1 := by kernel_rfl
theorem dbool_cells : Try.prog.cellsOf 4 = 1 := by kernel_rfl
theorem drow_cells : Try.prog.cellsOf 28 = 1 := by kernel_rfl

theorem open_frame {H : Type} {enc : TypeId × Value → H} {W : World} {sp : Nat → Bool} {held : Bool} {fuel : Nat} {cs : List Value} {x : DataW H × List MemPlace} (hf : DataW.trod enc Try.prog W 0 sp held fuel 30 cs = some x)
    (hz : ∀ n ∈ x.1.weights Try.prog 30, n ≤ reachBytes) : ∃ (f t : Int) (A : Option Addr) (c : Nat) (bs : List Int), cs = [.int .i64 f, .int .i64 t, .slice A bs.length c] ∧ bs.length ≤ 140737488351232 ∧ Rd W (fun i => i < W.heap.size) 1 (.slice A bs.length c) bs.length (bts bs) := by
  obtain ⟨xs, m, _, rfl, hl, hxl, hfs⟩ := DataW.trod_struct Try.underlying30 hf
  rw [frame_cells] at hl
  have g0 := hfs 0 _ rfl
  have g1 := hfs 1 _ rfl
  have g2 := hfs 2 _ rfl
  match cs, hl with
  | [c0, c1, c2], _ =>
    match xs, hxl with
    | [y0, y1, y2], _ =>
      simp [dint_cells, drow_cells] at g0 g1 g2
      obtain ⟨a, e0, _, w0⟩ := DataW.trod_int Try.underlying3 g0
      obtain ⟨b, e1, _, w1⟩ := DataW.trod_int Try.underlying3 g1
      obtain ⟨A, c', bs, e2, hb, hbl, hr⟩ := open_bytes_f g2 (fun n hn => hz n (by simp only [DataW.weights, Try.underlying30]; simp [DataW.weightsEach, hn]))
      simp at e0 e1 e2
      subst e0 e1 e2
      exact ⟨a, b, A, c', bs, rfl, hbl, hr⟩

theorem open_deed {H : Type} {enc : TypeId × Value → H} {W : World} {sp : Nat → Bool} {held : Bool} {fuel : Nat} {cs : List Value} {x : DataW H × List MemPlace} (hf : DataW.trod enc Try.prog W 0 sp held fuel 32 cs = some x)
    (hz : ∀ n ∈ x.1.weights Try.prog 32, n ≤ reachBytes) : ∃ y : De, cs = [.int .i64 y.kind, .int .i64 y.n, .int .i64 y.f, .int .i64 y.t, .slice y.A y.bs.length y.c] ∧ I64 y.kind ∧ I64 y.n ∧ y.bs.length ≤ 140737488351232 ∧ Rd W (fun i => i < W.heap.size) 1 (.slice y.A y.bs.length y.c) y.bs.length (bts y.bs) := by
  obtain ⟨xs, m, _, rfl, hl, hxl, hfs⟩ := DataW.trod_struct Try.underlying32 hf
  rw [deed_cells] at hl
  have g0 := hfs 0 _ rfl
  have g1 := hfs 1 _ rfl
  have g2 := hfs 2 _ rfl
  match cs, hl with
  | [c0, c1, c2, c3, c4], _ =>
    match xs, hxl with
    | [y0, y1, y2], _ =>
      simp [dint_cells, frame_cells] at g0 g1 g2
      obtain ⟨b, e0, _, w0⟩ := DataW.trod_int Try.underlying3 g0
      obtain ⟨n, e1, _, w1⟩ := DataW.trod_int Try.underlying3 g1
      obtain ⟨f, t, A, c', bs, e2, hbl, hr⟩ := open_frame g2 (fun n hn => hz n (by simp only [DataW.weights, Try.underlying32]; simp [DataW.weightsEach, hn]))
      simp at e0 e1 e2
      obtain ⟨e2, e3, e4⟩ := e2
      subst e0 e1 e2 e3 e4
      exact ⟨⟨b, n, f, t, A, c', bs⟩, rfl, i64_wf w0, i64_wf w1, hbl, hr⟩

/-- A list of deeds, as an argument reads. -/
structure DesRd (W : World) (A : Option Addr) (c : Nat) (l : List De) : Prop where
  cap : l.length ≤ c
  most : c ≤ 9223372036854775807
  at_ : ∀ i (hi : i < l.length), ∃ g o, A = some ⟨g, o, none⟩ ∧ g < W.heap.size ∧ DeAt W g (o + i * 5) l[i]

theorem open_deeds {H : Type} {enc : TypeId × Value → H} {W : World} {base : Nat} {sp : Nat → Bool} {held : Bool} {v : Value} {d : DataW H} {p : List MemPlace} (hv : Value.okWide Try.prog W .any base 22 v) (ht : DataW.Trod enc Try.prog W 0 sp held 22 v d p)
    (hz : ∀ n ∈ d.weights Try.prog 22, n ≤ reachBytes) : ∃ A c l, v = .slice A l.length c ∧ DesRd W A c l := by
  obtain ⟨a1, len1, cap1, rfl⟩ := okWide_slice Try.underlying22 hv
  obtain ⟨fuel, hf⟩ := ht
  rcases Go.Deep.open_slice Try.underlying22 hf with ⟨hcs, hx⟩ | ⟨a, len, cap, m, n, D, Pl, hcs, _, hl, hm, hmm, hx, hel⟩
  · simp [Value.cells] at hcs
    obtain ⟨rfl, rfl, rfl⟩ := hcs
    exact ⟨none, 0, [], rfl, ⟨by simp, by omega, fun i hi => absurd hi (by simp)⟩⟩
  · simp [Value.cells] at hcs
    obtain ⟨rfl, rfl, rfl⟩ := hcs
    simp only [Prod.mk.injEq] at hx
    obtain ⟨rfl, _⟩ := hx
    unfold maxLen at hm
    have hlm : len1 ≤ m := by rw [hmm]; split <;> omega
    have hsp : 0 < len1 → a.spot = none := by
      intro h0
      obtain ⟨cs', hc, hd⟩ := hel 0 (by omega)
      rw [deed_cells] at hc
      obtain ⟨hcl, hcj⟩ := cells_at hc
      have h := (cell_spot (hcj 0 (by omega))).1
      simpa [Addr.add] using h
    have each : ∀ i, i < len1 → ∃ y : De, ∃ g o, a = ⟨g, o, none⟩ ∧ g < W.heap.size ∧ DeAt W g (o + i * 5) y := by
      intro i hi
      obtain ⟨cs', hc, hd⟩ := hel i (by omega)
      rw [deed_cells] at hc
      obtain ⟨hcl, hcj⟩ := cells_at hc
      obtain ⟨y, hy, hw, hw2, hw3, hr⟩ := open_deed hd (fun n hn => hz n (by
        simp only [DataW.weights, Try.underlying22]
        refine List.mem_cons_of_mem _ (List.mem_append_left _ (weights_all (List.mem_map.2 ⟨i, by simpa using hi, rfl⟩) n hn))))
      subst hy
      have c0 := hcj 0 (by simp)
      have c1 := hcj 1 (by simp)
      have c2 := hcj 2 (by simp)
      have c3 := hcj 3 (by simp)
      have c4 := hcj 4 (by simp)
      obtain ⟨g, o, s⟩ := a
      have hs : s = none := hsp (by omega)
      subst hs
      rw [addr_add, addr_add] at c0 c1 c2 c3 c4
      have hg := (cell_spot c0).2
      exact ⟨y, g, o, rfl, hg, ⟨hw, hw2, hw3, hr⟩, by simpa using c0, by simpa using c1, by simpa using c2, by simpa using c3, by simpa using c4⟩
    obtain ⟨l, hll, hq⟩ := list_of _ len1 each
    refine ⟨some a, cap1, l, by rw [hll], by rw [hll]; exact hl, by omega, fun i hi => ?_⟩
    obtain ⟨g, o, ha, hg, hc⟩ := hq i hi
    exact ⟨g, o, by rw [ha], hg, hc⟩
end Go.Proofs.Ytekedgokmmkplaa
