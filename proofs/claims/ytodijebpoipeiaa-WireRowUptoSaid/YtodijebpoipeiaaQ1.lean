/- The input's reading: a list of calls. -/
import Derived.Test.YtodijebpoipeiaaArgs
import Derived.Deep.Slices
namespace Go.Proofs.Ytodijebpoipeiaa
open Go.RowKit Go.WideShapes Go.ChangeShapes
set_option linter.unusedVariables false
set_option linter.unusedSimpArgs false

structure Cl where
  what : Int
  n : Int
  size : Int
  A : Option Addr
  c : Nat
  bs : List Int

def I64 (n : Int) : Prop := -9223372036854775808 ≤ n ∧ n < 9223372036854775808
/-- A call reads as x: its cells at this place; its bytes. -/
def ClAt (W : World) (g o : Nat) (x : Cl) : Prop :=
  (I64 x.what ∧ I64 x.n ∧ I64 x.size ∧ Byt x.bs ∧ x.bs.length ≤ 140737488351232 ∧ Rd W (fun i => i < W.heap.size) 1 (.slice x.A x.bs.length x.c) x.bs.length (bts x.bs)) ∧
  W.cell? ⟨g, o, none⟩ = some (.int .i64 x.what) ∧ W.cell? ⟨g, o + 1, none⟩ = some (.int .i64 x.n) ∧ W.cell? ⟨g, o + 2, none⟩ = some (.int .i64 x.size) ∧ W.cell? ⟨g, o + 3, none⟩ = some (.slice x.A x.bs.length x.c)

theorem call_cells : Try.prog.cellsOf 29 = 4 := by kernel_rfl
theorem int_cells : Try.prog.cellsOf 3 = 1 := by kernel_rfl
theorem row_cells : Try.prog.cellsOf 27 = 1 := by kernel_rfl

theorem weights_all {H : Type} {P : Program} {e : TypeId} : ∀ {l : List (DataW H)} {d : DataW H}, d ∈ l → ∀ n ∈ d.weights P e, n ∈ DataW.weightsAll P e l
  | x :: l, d, h, n, hn => by
    simp only [DataW.weightsAll, List.mem_append]
    rcases List.mem_cons.1 h with rfl | h
    · exact .inl hn
    · exact .inr (weights_all h n hn)

theorem open_call {H : Type} {enc : TypeId × Value → H} {W : World} {sp : Nat → Bool} {held : Bool} {fuel : Nat} {cs : List Value} {x : DataW H × List MemPlace} (hf : DataW.trod enc Try.prog W 0 sp held fuel 29 cs = some x)
    (hz : ∀ n ∈ x.1.weights Try.prog 29, n ≤ reachBytes) : ∃ y : Cl, cs = [.int .i64 y.what, .int .i64 y.n, .int .i64 y.size, .slice y.A y.bs.length y.c] ∧
      I64 y.what ∧ I64 y.n ∧ I64 y.size ∧ Byt y.bs ∧ y.bs.length ≤ 140737488351232 ∧ Rd W (fun i => i < W.heap.size) 1 (.slice y.A y.bs.length y.c) y.bs.length (bts y.bs) := by
  obtain ⟨xs, m, _, rfl, hl, hxl, hfs⟩ := DataW.trod_struct Try.underlying29 hf
  rw [call_cells] at hl
  have g0 := hfs 0 _ rfl
  have g1 := hfs 1 _ rfl
  have g2 := hfs 2 _ rfl
  have g3 := hfs 3 _ rfl
  match cs, hl with
  | [c0, c1, c2, c3], _ =>
    match xs, hxl with
    | [y0, y1, y2, y3], _ =>
      simp [int_cells, row_cells] at g0 g1 g2 g3
      obtain ⟨a, e0, _, w0⟩ := DataW.trod_int Try.underlying3 g0
      obtain ⟨b, e1, _, w1⟩ := DataW.trod_int Try.underlying3 g1
      obtain ⟨c, e2, _, w2⟩ := DataW.trod_int Try.underlying3 g2
      obtain ⟨A, c', bs, e3, hb, hbl, hr⟩ := open_bytes_f g3 (fun n hn => hz n (by simp only [DataW.weights, Try.underlying29]; simp [DataW.weightsEach, hn]))
      simp at e0 e1 e2 e3
      subst e0 e1 e2 e3
      exact ⟨⟨a, b, c, A, c', bs⟩, rfl, i64_wf w0, i64_wf w1, i64_wf w2, hb, hbl, hr⟩

/-- A list of calls, as an argument reads. -/
structure ClsRd (W : World) (A : Option Addr) (c : Nat) (l : List Cl) : Prop where
  cap : l.length ≤ c
  most : c ≤ 9223372036854775807
  at_ : ∀ i (hi : i < l.length), ∃ g o, A = some ⟨g, o, none⟩ ∧ g < W.heap.size ∧ ClAt W g (o + i * 4) l[i]

theorem open_calls {H : Type} {enc : TypeId × Value → H} {W : World} {base : Nat} {sp : Nat → Bool} {held : Bool} {v : Value} {d : DataW H} {p : List MemPlace} (hv : Value.okWide Try.prog W .any base 22 v) (ht : DataW.Trod enc Try.prog W 0 sp held 22 v d p)
    (hz : ∀ n ∈ d.weights Try.prog 22, n ≤ reachBytes) : ∃ A c l, v = .slice A l.length c ∧ ClsRd W A c l := by
  obtain ⟨a1, len1, cap1, rfl⟩ := okWide_slice Try.underlying22 hv
  obtain ⟨fuel, hf⟩ := ht
  rcases Go.Deep.open_slice Try.underlying22 hf with ⟨hcs, hx⟩ | ⟨a, len, cap, m, n, D, Pl, hcs, _, hl, hm, hmm, hx, hel⟩
  · simp [Value.cells] at hcs
    obtain ⟨rfl, rfl, rfl⟩ := hcs
    exact ⟨none, 0, [], rfl, ⟨by simp, by omega, fun i hi => absurd hi (by simp)⟩⟩
  · simp [Value.cells] at hcs
    obtain ⟨rfl, rfl, rfl⟩ := hcs
    simp only [Prod.mk.injEq] at hx
    obtain ⟨rfl, _⟩ := hx
    unfold maxLen at hm
    have hlm : len1 ≤ m := by rw [hmm]; split <;> omega
    have hsp : 0 < len1 → a.spot = none := by
      intro h0
      obtain ⟨cs', hc, hd⟩ := hel 0 (by omega)
      rw [call_cells] at hc
      obtain ⟨hcl, hcj⟩ := cells_at hc
      have h := (cell_spot (hcj 0 (by omega))).1
      simpa [Addr.add] using h
    have each : ∀ i, i < len1 → ∃ y : Cl, ∃ g o, a = ⟨g, o, none⟩ ∧ g < W.heap.size ∧ ClAt W g (o + i * 4) y := by
      intro i hi
      obtain ⟨cs', hc, hd⟩ := hel i (by omega)
      rw [call_cells] at hc
      obtain ⟨hcl, hcj⟩ := cells_at hc
      obtain ⟨y, hy, hw⟩ := open_call hd (fun n hn => hz n (by
        simp only [DataW.weights, Try.underlying22]
        refine List.mem_cons_of_mem _ (List.mem_append_left _ (weights_all (List.mem_map.2 ⟨i, by simpa using hi, rfl⟩) n hn))))
      subst hy
      have c0 := hcj 0 (by simp)
      have c1 := hcj 1 (by simp)
      have c2 := hcj 2 (by simp)
      have c3 := hcj 3 (by simp)
      obtain ⟨g, o, s⟩ := a
      have hs : s = none := hsp (by omega)
      subst hs
      rw [addr_add, addr_add] at c0 c1 c2 c3
      have hg := (cell_spot c0).2
      exact ⟨y, g, o, rfl, hg, hw, by simpa using c0, by simpa using c1, by simpa using c2, by simpa using c3⟩
    obtain ⟨l, hll, hq⟩ := list_of _ len1 each
    refine ⟨some a, cap1, l, by rw [hll], by rw [hll]; exact hl, by omega, fun i hi => ?_⟩
    obtain ⟨g, o, ha, hg, hc⟩ := hq i hi
    exact ⟨g, o, by rw [ha], hg, hc⟩
end Go.Proofs.Ytodijebpoipeiaa
