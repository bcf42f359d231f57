/- The inputs' readings: slices of bytes. -/
import Derived.Test.YtnphnaggamfoiaaBase
import Derived.ProofKit
import Derived.OpenShut
import Derived.SizedLaws
import Derived.ChangeSlices
import Derived.WideShapes
namespace Go.Proofs.Ytnphnaggamfoiaa
open Go.RowKit Go.WideShapes Go.ChangeShapes
set_option maxRecDepth 20000
set_option linter.unusedVariables false
set_option linter.unusedSimpArgs false

def Byt (xs : List Int) : Prop := ∀ x ∈ xs, 0 ≤ x ∧ x < 256
theorem u8_wf {n : Int} (h : (Lit.int .u8 n).wf = true) : 0 ≤ n ∧ n < 256 := by
  have e1 : IntKind.min .u8 = 0 := by decide
  have e2 : IntKind.max .u8 = 255 := by decide
  simp [Lit.wf, e1, e2] at h
  omega
theorem i64_wf {n : Int} (h : (Lit.int .i64 n).wf = true) : -9223372036854775808 ≤ n ∧ n < 9223372036854775808 := by
  have e1 : IntKind.min .i64 = -9223372036854775808 := by decide
  have e2 : IntKind.max .i64 = 9223372036854775807 := by decide
  simp only [Lit.wf, e1, e2, Bool.and_eq_true, decide_eq_true_eq] at h
  omega
theorem cell_spot {w : World} {a : Addr} {v : Value} (h : w.cell? a = some v) : a.spot = none ∧ a.block < w.heap.size := by
  refine ⟨?_, World.block_lt_of_cell? w a h⟩
  unfold World.cell? at h
  split at h
  · split at h
    · cases h
    · rename_i hs; cases hsp : a.spot <;> simp_all
  · cases h
theorem bytes_cells : Try.prog.cellsOf 5 = 1 := by kernel_rfl
theorem bytes_of : Try.prog.bytesOf 5 = 1 := by kernel_rfl

/-- A []byte argument, or one inside another, by the reading alone. -/
theorem open_bytes_f {H : Type} {enc : TypeId × Value → H} {W : World} {sp : Nat → Bool} {held : Bool} {fuel : Nat} {cs : List Value} {x : DataW H × List MemPlace} (hf : DataW.trod enc Try.prog W 0 sp held fuel 23 cs = some x)
    (hz : ∀ n ∈ x.1.weights Try.prog 23, n ≤ reachBytes) : ∃ A c xs, cs = [.slice A xs.length c] ∧ Byt xs ∧ xs.length ≤ 140737488351232 ∧ Rd W (fun i => i < W.heap.size) 1 (.slice A xs.length c) xs.length (bts xs) := by
  rcases Go.ChangeShapes.open_ints Try.underlying23 Try.underlying5 bytes_cells hf with ⟨hcs, hx⟩ | ⟨a, len, cap, zs, hcs, _, hl, hm, hzl, hx, hcell, hwz⟩
  · subst hcs
    exact ⟨none, 0, [], rfl, fun x hx => by simp at hx, by simp, Rd.nil _ _ _⟩
  · subst hcs hx
    have hlz : len ≤ zs.length := by rw [hzl]; split <;> omega
    have hw := hz _ (by simp only [DataW.weights, Try.underlying23]; exact List.mem_cons_self)
    rw [bytes_of] at hw
    simp only [lits, List.length_map, List.length_take, List.length_drop, reachBytes] at hw
    have hlen : (zs.take len).length = len := by simp; omega
    refine ⟨some a, cap, zs.take len, by rw [hlen], fun x hx => u8_wf (hwz x (List.mem_of_mem_take hx)), by rw [hlen]; omega, ?_⟩
    rw [hlen]
    refine ⟨by rw [bts_length, hlen]; simp, some a, cap, rfl, hl, hm, fun hn => ?_⟩
    have h0 := cell_spot (hcell 0 (by omega))
    obtain ⟨g, o, s⟩ := a
    have hs : s = none := by have := h0.1; unfold Addr.add at this; split at this <;> simp_all
    subst hs
    refine ⟨g, o, rfl, ?_, fun j u hu => ?_⟩
    · have := h0.2; rwa [addr_add] at this
    · have hj : j < len := by have := (List.getElem?_eq_some_iff.1 hu).1; rwa [bts_length, hlen] at this
      have hc := hcell j (by omega)
      rw [addr_add] at hc
      rw [hc]
      rw [bts_getElem? _ j (by omega)] at hu
      rw [List.getElem_take] at hu
      rw [List.getD_eq_getElem?_getD, List.getElem?_eq_getElem (by omega)]
      simpa using hu
theorem open_bytes {H : Type} {enc : TypeId × Value → H} {W : World} {base : Nat} {sp : Nat → Bool} {held : Bool} {v : Value} {d : DataW H} {p : List MemPlace} (hv : Value.okWide Try.prog W .any base 23 v) (ht : DataW.Trod enc Try.prog W 0 sp held 23 v d p)
    (hz : ∀ n ∈ d.weights Try.prog 23, n ≤ reachBytes) : ∃ A c xs, v = .slice A xs.length c ∧ Byt xs ∧ xs.length ≤ 140737488351232 ∧ Rd W (fun i => i < W.heap.size) 1 (.slice A xs.length c) xs.length (bts xs) := by
  obtain ⟨a1, len, cap, rfl⟩ := okWide_slice Try.underlying23 hv
  obtain ⟨fuel, hf⟩ := ht
  obtain ⟨A, c, xs, he, h⟩ := open_bytes_f hf hz
  exact ⟨A, c, xs, by simpa [Value.cells] using he, h⟩
/-- A choice for each index is a list. -/
theorem list_of {α : Type} (Q : Nat → α → Prop) (n : Nat) (h : ∀ i, i < n → ∃ a, Q i a) : ∃ l : List α, l.length = n ∧ ∀ i (hi : i < l.length), Q i l[i] := by
  induction n with
  | zero => exact ⟨[], rfl, fun i hi => absurd hi (by simp)⟩
  | succ n ih =>
    obtain ⟨l, hl, hq⟩ := ih (fun i hi => h i (by omega))
    obtain ⟨a, ha⟩ := h n (by omega)
    refine ⟨l ++ [a], by simp [hl], fun i hi => ?_⟩
    rcases Nat.lt_or_ge i l.length with h1 | h1
    · rw [List.getElem_append_left h1]; exact hq i h1
    · have : i = l.length := by simp at hi; omega
      subst this
      rw [List.getElem_append_right (by omega)]
      simpa [hl] using ha
theorem mapM_at {α β : Type} {f : α → Option β} : ∀ {l : List α} {r : List β}, l.mapM f = some r → r.length = l.length ∧ ∀ j (hj : j < l.length) (hr : j < r.length), f l[j] = some r[j]
  | [], r, h => by
    simp at h
    subst h
    exact ⟨rfl, fun j hj => absurd hj (by simp)⟩
  | x :: l, r, h => by
    rw [List.mapM_cons] at h
    obtain ⟨y, hy, h⟩ := Option.bind_eq_some_iff.1 h
    obtain ⟨ys, hys, h⟩ := Option.bind_eq_some_iff.1 h
    have hr : y :: ys = r := by simpa using h
    subst hr
    obtain ⟨h1, h2⟩ := mapM_at hys
    refine ⟨by simp [h1], fun j hj hr => ?_⟩
    cases j with
    | zero => simpa using hy
    | succ j => simpa using h2 j (by simpa using hj) (by simpa using hr)
theorem cells_at {w : World} {base n : Nat} {a : Addr} {cs : List Value} (h : w.cells? base a n = some cs) : cs.length = n ∧ ∀ j (hj : j < cs.length), w.cell? (a.add j) = some cs[j] := by
  unfold World.cells? at h
  split at h
  · obtain ⟨h1, h2⟩ := mapM_at h
    rw [List.length_range] at h1
    refine ⟨h1, fun j hj => ?_⟩
    have := h2 j (by rw [List.length_range]; omega) hj
    simpa using this
  · cases h
end Go.Proofs.Ytnphnaggamfoiaa
