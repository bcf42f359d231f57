/- Walks of the document's answer: number, kept; lists of entries, compared. -/
import Derived.Test.YtnphnaggamfoiaaC1
namespace Go.Proofs.Ytnphnaggamfoiaa
open Go.RowKit
set_option maxRecDepth 20000
set_option linter.unusedVariables false
set_option linter.unusedSimpArgs false

theorem refnumber_any (n : Int) (w : World) : Calls Try.prog 38 #[.int .i64 n] w fun e w' => e = .returned (.bool (nuB n)) ∧ w = w' := by
  unfold nuB wiB
  by_cases h : 0 ≤ n
  · have h' : decide (0 ≤ n) = true := by simpa using h
    rw [h']
    go_enter Try.func38, Try.ntmps38
    go_wp2
    go_ret
    exact ⟨by simp, rfl⟩
  · have h' : decide (0 ≤ n) = false := by simpa using h
    rw [h']
    go_enter Try.func38, Try.ntmps38
    go_wp2
    go_ret
    exact ⟨by simp, rfl⟩
theorem refnumber_is {n : Int} {r : Bool} (h : nuB n = r) (w : World) : Calls Try.prog 38 #[.int .i64 n] w fun e w' => e = .returned (.bool r) ∧ w = w' := h ▸ refnumber_any n w
theorem kept_1 (p : Po) (h : p.kd = 1) (w : World) : Calls Try.prog 39 #[p.v] w fun e w' => e = .returned p.bare.v ∧ Below w.heap.size w w' := by
  obtain ⟨kd, fr, to, te, ix, lt, co, ok, hi, EA, en, ec, si, st, sc, SA, sn, sk⟩ := p
  simp only at h
  subst h
  rw [show Po.bare ⟨1, fr, to, te, ix, lt, co, ok, hi, EA, en, ec, si, st, sc, SA, sn, sk⟩ = ⟨1, fr, to, te, ix, lt, 0, false, 0, none, 0, 0, 0, 0, 0, none, 0, 0⟩ from rfl]
  simp only [Po.v, Po.cs]
  go_enter Try.func39, Try.ntmps39
  go_wp2_with fail
  exact bodyPost_ret (v := .agg #[.int .i64 1, .int .i64 fr, .int .i64 to, .int .i64 te, .int .i64 ix, .int .i64 lt, .int .i64 0, .bool false, .int .i64 0, .slice none 0 0, .int .i64 0, .int .i64 0, .int .i64 0, .slice none 0 0]) (by simp [results, Try.results39, go_sem]) rfl ⟨rfl, Ba (Ba (Ba (B0 w) _) _) _⟩
theorem kept_2 (p : Po) (h : p.kd = 2) (w : World) : Calls Try.prog 39 #[p.v] w fun e w' => e = .returned p.bare.v ∧ Below w.heap.size w w' := by
  obtain ⟨kd, fr, to, te, ix, lt, co, ok, hi, EA, en, ec, si, st, sc, SA, sn, sk⟩ := p
  simp only at h
  subst h
  rw [show Po.bare ⟨2, fr, to, te, ix, lt, co, ok, hi, EA, en, ec, si, st, sc, SA, sn, sk⟩ = ⟨2, fr, to, te, 0, 0, 0, ok, 0, none, 0, 0, 0, 0, 0, none, 0, 0⟩ from rfl]
  simp only [Po.v, Po.cs]
  go_enter Try.func39, Try.ntmps39
  go_wp2_with fail
  exact bodyPost_ret (v := .agg #[.int .i64 2, .int .i64 fr, .int .i64 to, .int .i64 te, .int .i64 0, .int .i64 0, .int .i64 0, .bool ok, .int .i64 0, .slice none 0 0, .int .i64 0, .int .i64 0, .int .i64 0, .slice none 0 0]) (by simp [results, Try.results39, go_sem]) rfl ⟨rfl, Ba (Ba (Ba (B0 w) _) _) _⟩
theorem kept_3 (p : Po) (h : p.kd = 3) (w : World) : Calls Try.prog 39 #[p.v] w fun e w' => e = .returned p.bare.v ∧ Below w.heap.size w w' := by
  obtain ⟨kd, fr, to, te, ix, lt, co, ok, hi, EA, en, ec, si, st, sc, SA, sn, sk⟩ := p
  simp only at h
  subst h
  rw [show Po.bare ⟨3, fr, to, te, ix, lt, co, ok, hi, EA, en, ec, si, st, sc, SA, sn, sk⟩ = ⟨3, fr, to, te, ix, lt, co, false, hi, EA, en, ec, 0, 0, 0, none, 0, 0⟩ from rfl]
  simp only [Po.v, Po.cs]
  go_enter Try.func39, Try.ntmps39
  go_wp2_with fail
  exact bodyPost_ret (v := .agg #[.int .i64 3, .int .i64 fr, .int .i64 to, .int .i64 te, .int .i64 ix, .int .i64 lt, .int .i64 co, .bool false, .int .i64 hi, .slice EA en ec, .int .i64 0, .int .i64 0, .int .i64 0, .slice none 0 0]) (by simp [results, Try.results39, go_sem]) rfl ⟨rfl, Ba (Ba (Ba (B0 w) _) _) _⟩
theorem kept_4 (p : Po) (h : p.kd = 4) (w : World) : Calls Try.prog 39 #[p.v] w fun e w' => e = .returned p.bare.v ∧ Below w.heap.size w w' := by
  obtain ⟨kd, fr, to, te, ix, lt, co, ok, hi, EA, en, ec, si, st, sc, SA, sn, sk⟩ := p
  simp only at h
  subst h
  rw [show Po.bare ⟨4, fr, to, te, ix, lt, co, ok, hi, EA, en, ec, si, st, sc, SA, sn, sk⟩ = ⟨4, fr, to, te, ix, 0, 0, ok, hi, none, 0, 0, 0, 0, 0, none, 0, 0⟩ from rfl]
  simp only [Po.v, Po.cs]
  go_enter Try.func39, Try.ntmps39
  go_wp2_with fail
  exact bodyPost_ret (v := .agg #[.int .i64 4, .int .i64 fr, .int .i64 to, .int .i64 te, .int .i64 ix, .int .i64 0, .int .i64 0, .bool ok, .int .i64 hi, .slice none 0 0, .int .i64 0, .int .i64 0, .int .i64 0, .slice none 0 0]) (by simp [results, Try.results39, go_sem]) rfl ⟨rfl, Ba (Ba (Ba (B0 w) _) _) _⟩
theorem kept_5 (p : Po) (h : p.kd = 5) (w : World) : Calls Try.prog 39 #[p.v] w fun e w' => e = .returned p.bare.v ∧ Below w.heap.size w w' := by
  obtain ⟨kd, fr, to, te, ix, lt, co, ok, hi, EA, en, ec, si, st, sc, SA, sn, sk⟩ := p
  simp only at h
  subst h
  rw [show Po.bare ⟨5, fr, to, te, ix, lt, co, ok, hi, EA, en, ec, si, st, sc, SA, sn, sk⟩ = ⟨5, fr, to, te, 0, 0, 0, false, hi, none, 0, 0, si, st, sc, SA, sn, sk⟩ from rfl]
  simp only [Po.v, Po.cs]
  go_enter Try.func39, Try.ntmps39
  go_wp2_with fail
  exact bodyPost_ret (v := .agg #[.int .i64 5, .int .i64 fr, .int .i64 to, .int .i64 te, .int .i64 0, .int .i64 0, .int .i64 0, .bool false, .int .i64 hi, .slice none 0 0, .int .i64 si, .int .i64 st, .int .i64 sc, .slice SA sn sk]) (by simp [results, Try.results39, go_sem]) rfl ⟨rfl, Ba (Ba (Ba (B0 w) _) _) _⟩
theorem kept_6 (p : Po) (h : p.kd = 6) (w : World) : Calls Try.prog 39 #[p.v] w fun e w' => e = .returned p.bare.v ∧ Below w.heap.size w w' := by
  obtain ⟨kd, fr, to, te, ix, lt, co, ok, hi, EA, en, ec, si, st, sc, SA, sn, sk⟩ := p
  simp only at h
  subst h
  rw [show Po.bare ⟨6, fr, to, te, ix, lt, co, ok, hi, EA, en, ec, si, st, sc, SA, sn, sk⟩ = ⟨6, fr, to, te, ix, 0, 0, false, hi, none, 0, 0, 0, 0, 0, none, 0, 0⟩ from rfl]
  simp only [Po.v, Po.cs]
  go_enter Try.func39, Try.ntmps39
  go_wp2_with fail
  exact bodyPost_ret (v := .agg #[.int .i64 6, .int .i64 fr, .int .i64 to, .int .i64 te, .int .i64 ix, .int .i64 0, .int .i64 0, .bool false, .int .i64 hi, .slice none 0 0, .int .i64 0, .int .i64 0, .int .i64 0, .slice none 0 0]) (by simp [results, Try.results39, go_sem]) rfl ⟨rfl, Ba (Ba (Ba (B0 w) _) _) _⟩
theorem kept_any (p : Po) (h : wiB p.kd 1 6 = true) (w : World) : Calls Try.prog 39 #[p.v] w fun e w' => e = .returned p.bare.v ∧ Below w.heap.size w w' := by
  have h' : 1 ≤ p.kd ∧ p.kd ≤ 6 := by simpa [wiB] using h
  have : p.kd = 1 ∨ p.kd = 2 ∨ p.kd = 3 ∨ p.kd = 4 ∨ p.kd = 5 ∨ p.kd = 6 := by omega
  rcases this with e | e | e | e | e | e
  · exact kept_1 p e w
  · exact kept_2 p e w
  · exact kept_3 p e w
  · exact kept_4 p e w
  · exact kept_5 p e w
  · exact kept_6 p e w

end Go.Proofs.Ytnphnaggamfoiaa
