/- The input's reading: a list of reports. -/
import Derived.Test.YtdnbbjhickjnmaaG1
import Derived.Deep.Slices
namespace Go.Proofs.Ytdnbbjhickjnmaa
open Go.RowKit Go.WideShapes Go.ChangeShapes
set_option maxRecDepth 20000
set_option linter.unusedVariables false
set_option linter.unusedSimpArgs false

structure Rp where
  n : Int
  lost : Bool
  t : Nat

/-- A report reads as x: its cells at this place. -/
def RpAt (W : World) (g o : Nat) (x : Rp) : Prop :=
  x.t < 18446744073709551616 ∧ W.cell? ⟨g, o, none⟩ = some (.int .i64 x.n) ∧ W.cell? ⟨g, o + 1, none⟩ = some (.bool x.lost) ∧ W.cell? ⟨g, o + 2, none⟩ = some (.float .f64 x.t)

theorem rep_cells : Try.prog.cellsOf 54 = 3 := by kernel_rfl
theorem int_cells : Try.prog.cellsOf 3 = 1 := by kernel_rfl
theorem bool_cells : Try.prog.cellsOf 4 = 1 := by kernel_rfl
theorem float_cells : Try.prog.cellsOf 52 = 1 := by kernel_rfl

theorem open_report {H : Type} {enc : TypeId × Value → H} {W : World} {sp : Nat → Bool} {held : Bool} {fuel : Nat} {cs : List Value} {x : DataW H × List MemPlace} (hf : DataW.trod enc Try.prog W 0 sp held fuel 54 cs = some x) :
    ∃ y : Rp, cs = [.int .i64 y.n, .bool y.lost, .float .f64 y.t] ∧ y.t < 18446744073709551616 := by
  obtain ⟨xs, m, _, rfl, hl, hxl, hfs⟩ := DataW.trod_struct Try.underlying54 hf
  rw [rep_cells] at hl
  have g0 := hfs 0 _ rfl
  have g1 := hfs 1 _ rfl
  have g2 := hfs 2 _ rfl
  match cs, hl with
  | [c0, c1, c2], _ =>
    match xs, hxl with
    | [y0, y1, y2], _ =>
      simp [int_cells, bool_cells, float_cells] at g0 g1 g2
      obtain ⟨a, e0, _, w0⟩ := DataW.trod_int Try.underlying3 g0
      obtain ⟨b, e1, _⟩ := DataW.trod_bool Try.underlying4 g1
      obtain ⟨c, e2, _, w2⟩ := trod_float Try.underlying52 g2
      simp at e0 e1 e2
      subst e0 e1 e2
      exact ⟨⟨a, b, c⟩, rfl, f64_wf w2⟩

/-- A list of reports, as an argument reads. -/
structure RpsRd (W : World) (A : Option Addr) (c : Nat) (l : List Rp) : Prop where
  cap : l.length ≤ c
  most : c ≤ 9223372036854775807
  at_ : ∀ i (hi : i < l.length), ∃ g o, A = some ⟨g, o, none⟩ ∧ g < W.heap.size ∧ RpAt W g (o + i * 3) l[i]

theorem open_reports {H : Type} {enc : TypeId × Value → H} {W : World} {base : Nat} {sp : Nat → Bool} {held : Bool} {v : Value} {d : DataW H} {p : List MemPlace} (hv : Value.okWide Try.prog W .any base 48 v) (ht : DataW.Trod enc Try.prog W 0 sp held 48 v d p) : ∃ A c l, v = .slice A l.length c ∧ RpsRd W A c l := by
  obtain ⟨a1, len1, cap1, rfl⟩ := okWide_slice Try.underlying48 hv
  obtain ⟨fuel, hf⟩ := ht
  rcases Go.Deep.open_slice Try.underlying48 hf with ⟨hcs, hx⟩ | ⟨a, len, cap, m, n, D, Pl, hcs, _, hl, hm, hmm, hx, hel⟩
  · simp [Value.cells] at hcs
    obtain ⟨rfl, rfl, rfl⟩ := hcs
    exact ⟨none, 0, [], rfl, ⟨by simp, by omega, fun i hi => absurd hi (by simp)⟩⟩
  · simp [Value.cells] at hcs
    obtain ⟨rfl, rfl, rfl⟩ := hcs
    simp only [Prod.mk.injEq] at hx
    obtain ⟨rfl, _⟩ := hx
    unfold maxLen at hm
    have hlm : len1 ≤ m := by rw [hmm]; split <;> omega
    have hsp : 0 < len1 → a.spot = none := by
      intro h0
      obtain ⟨cs', hc, hd⟩ := hel 0 (by omega)
      rw [rep_cells] at hc
      obtain ⟨hcl, hcj⟩ := cells_at hc
      have h := (cell_spot (hcj 0 (by omega))).1
      simpa [Addr.add] using h
    have each : ∀ i, i < len1 → ∃ y : Rp, ∃ g o, a = ⟨g, o, none⟩ ∧ g < W.heap.size ∧ RpAt W g (o + i * 3) y := by
      intro i hi
      obtain ⟨cs', hc, hd⟩ := hel i (by omega)
      rw [rep_cells] at hc
      obtain ⟨hcl, hcj⟩ := cells_at hc
      obtain ⟨y, hy, hw⟩ := open_report hd
      subst hy
      have c0 := hcj 0 (by simp)
      have c1 := hcj 1 (by simp)
      have c2 := hcj 2 (by simp)
      obtain ⟨g, o, s⟩ := a
      have hs : s = none := hsp (by omega)
      subst hs
      rw [addr_add, addr_add] at c0 c1 c2
      have hg := (cell_spot c0).2
      exact ⟨y, g, o, rfl, hg, hw, by simpa using c0, by simpa using c1, by simpa using c2⟩
    obtain ⟨l, hll, hq⟩ := list_of _ len1 each
    refine ⟨some a, cap1, l, by rw [hll], by rw [hll]; exact hl, by omega, fun i hi => ?_⟩
    obtain ⟨g, o, ha, hg, hc⟩ := hq i hi
    exact ⟨g, o, by rw [ha], hg, hc⟩
end Go.Proofs.Ytdnbbjhickjnmaa
