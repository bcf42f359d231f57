/- Walks of the program's check: within, number, bare, alike. -/
import Derived.Test.YtnphnaggamfoiaaC1
namespace Go.Proofs.Ytnphnaggamfoiaa
open Go.RowKit
set_option maxRecDepth 20000
set_option linter.unusedVariables false
set_option linter.unusedSimpArgs false

theorem within_any (n a b : Int) (w : World) : Calls Try.prog 32 #[.int .i64 n, .int .i64 a, .int .i64 b] w fun e w' => e = .returned (.bool (wiB n a b)) ∧ w = w' := by
  unfold wiB
  by_cases h : a ≤ n
  · have h' : decide (a ≤ n) = true := by simpa using h
    rw [h']
    go_enter Try.func32, Try.ntmps32
    go_wp2
    go_ret
    exact ⟨by simp, rfl⟩
  · have h' : decide (a ≤ n) = false := by simpa using h
    rw [h']
    go_enter Try.func32, Try.ntmps32
    go_wp2
    go_ret
    exact ⟨by simp, rfl⟩
theorem within_is {n a b : Int} {r : Bool} (h : wiB n a b = r) (w : World) : Calls Try.prog 32 #[.int .i64 n, .int .i64 a, .int .i64 b] w fun e w' => e = .returned (.bool r) ∧ w = w' := h ▸ within_any n a b w
theorem number_any (n : Int) (w : World) : Calls Try.prog 33 #[.int .i64 n] w fun e w' => e = .returned (.bool (nuB n)) ∧ w = w' := by
  go_enter Try.func33, Try.ntmps33
  go_wp2_with fail
  refine (within_any _ _ _ _).mono ?_
  rintro e w' ⟨rfl, rfl⟩
  obtain ⟨r, hr⟩ : ∃ r, r = nuB n := ⟨_, rfl⟩
  rw [show wiB n 0 9007199254740991 = r from hr.symm]
  have HR := Lib.hid hr
  clear hr
  go_wp2_with fail
  go_ret
  exact ⟨ret_bool HR.out, rfl⟩
theorem number_is {n : Int} {r : Bool} (h : nuB n = r) (w : World) : Calls Try.prog 33 #[.int .i64 n] w fun e w' => e = .returned (.bool r) ∧ w = w' := h ▸ number_any n w

theorem nums_any (p : Po) (w : World) : Calls Try.prog 66 #[p.v] w fun e w' => e = .returned (.agg (p.nums.map (Value.int .i64)).toArray) ∧ Below w.heap.size w w' := by
  obtain ⟨kd, fr, to, te, ix, lt, co, ok, hi, EA, en, ec, si, st, sc, SA, sn, sk⟩ := p
  simp only [Po.v, Po.cs, Po.nums, List.map_cons, List.map_nil]
  go_enter Try.func66, Try.ntmps66
  go_wp2_with fail
  exact bodyPost_ret (v := .agg #[.int .i64 kd, .int .i64 fr, .int .i64 to, .int .i64 te, .int .i64 ix, .int .i64 lt, .int .i64 co, .int .i64 hi, .int .i64 si, .int .i64 st, .int .i64 sc]) (by simp [results, Try.results66, go_sem]) rfl ⟨rfl, Ba (Ba (B0 w) _) _⟩

theorem bare_1 (p : Po) (h : p.kd = 1) (w : World) : Calls Try.prog 35 #[p.v] w fun e w' => e = .returned p.bare.v ∧ Below w.heap.size w w' := by
  obtain ⟨kd, fr, to, te, ix, lt, co, ok, hi, EA, en, ec, si, st, sc, SA, sn, sk⟩ := p
  simp only at h
  subst h
  rw [show Po.bare ⟨1, fr, to, te, ix, lt, co, ok, hi, EA, en, ec, si, st, sc, SA, sn, sk⟩ = ⟨1, fr, to, te, ix, lt, 0, false, 0, none, 0, 0, 0, 0, 0, none, 0, 0⟩ from rfl]
  simp only [Po.v, Po.cs]
  go_enter Try.func35, Try.ntmps35
  go_wp2_with fail
  go_region_held3 (fun w' => w'.cell? ⟨w.heap.size, 4, none⟩ = some (.int .i64 ix) ∧ w'.cell? ⟨w.heap.size, 5, none⟩ = some (.int .i64 lt)) (go_keep) (fail)
  go_wp2_with fail
  exact bodyPost_ret (v := .agg #[.int .i64 1, .int .i64 fr, .int .i64 to, .int .i64 te, .int .i64 ix, .int .i64 lt, .int .i64 0, .bool false, .int .i64 0, .slice none 0 0, .int .i64 0, .int .i64 0, .int .i64 0, .slice none 0 0]) (by simp [results, Try.results35, go_sem]) rfl ⟨rfl, Bd (Ba (Ba (Ba (B0 w) _) _) _)⟩
theorem bare_2 (p : Po) (h : p.kd = 2) (w : World) : Calls Try.prog 35 #[p.v] w fun e w' => e = .returned p.bare.v ∧ Below w.heap.size w w' := by
  obtain ⟨kd, fr, to, te, ix, lt, co, ok, hi, EA, en, ec, si, st, sc, SA, sn, sk⟩ := p
  simp only at h
  subst h
  rw [show Po.bare ⟨2, fr, to, te, ix, lt, co, ok, hi, EA, en, ec, si, st, sc, SA, sn, sk⟩ = ⟨2, fr, to, te, 0, 0, 0, ok, 0, none, 0, 0, 0, 0, 0, none, 0, 0⟩ from rfl]
  simp only [Po.v, Po.cs]
  go_enter Try.func35, Try.ntmps35
  go_wp2_with fail
  exact bodyPost_ret (v := .agg #[.int .i64 2, .int .i64 fr, .int .i64 to, .int .i64 te, .int .i64 0, .int .i64 0, .int .i64 0, .bool ok, .int .i64 0, .slice none 0 0, .int .i64 0, .int .i64 0, .int .i64 0, .slice none 0 0]) (by simp [results, Try.results35, go_sem]) rfl ⟨rfl, Ba (Ba (Ba (B0 w) _) _) _⟩
theorem bare_3 (p : Po) (h : p.kd = 3) (w : World) : Calls Try.prog 35 #[p.v] w fun e w' => e = .returned p.bare.v ∧ Below w.heap.size w w' := by
  obtain ⟨kd, fr, to, te, ix, lt, co, ok, hi, EA, en, ec, si, st, sc, SA, sn, sk⟩ := p
  simp only at h
  subst h
  rw [show Po.bare ⟨3, fr, to, te, ix, lt, co, ok, hi, EA, en, ec, si, st, sc, SA, sn, sk⟩ = ⟨3, fr, to, te, ix, lt, co, false, hi, EA, en, ec, 0, 0, 0, none, 0, 0⟩ from rfl]
  simp only [Po.v, Po.cs]
  go_enter Try.func35, Try.ntmps35
  go_wp2_with fail
  go_region_held3 (fun w' => w'.cell? ⟨w.heap.size, 4, none⟩ = some (.int .i64 ix) ∧ w'.cell? ⟨w.heap.size, 5, none⟩ = some (.int .i64 lt) ∧ w'.cell? ⟨w.heap.size, 6, none⟩ = some (.int .i64 co) ∧ w'.cell? ⟨w.heap.size, 8, none⟩ = some (.int .i64 hi) ∧ w'.cell? ⟨w.heap.size, 9, none⟩ = some (.slice EA en ec)) (go_keep) (fail)
  go_wp2_with fail
  exact bodyPost_ret (v := .agg #[.int .i64 3, .int .i64 fr, .int .i64 to, .int .i64 te, .int .i64 ix, .int .i64 lt, .int .i64 co, .bool false, .int .i64 hi, .slice EA en ec, .int .i64 0, .int .i64 0, .int .i64 0, .slice none 0 0]) (by simp [results, Try.results35, go_sem]) rfl ⟨rfl, Bd (Ba (Ba (Ba (B0 w) _) _) _)⟩
theorem bare_4 (p : Po) (h : p.kd = 4) (w : World) : Calls Try.prog 35 #[p.v] w fun e w' => e = .returned p.bare.v ∧ Below w.heap.size w w' := by
  obtain ⟨kd, fr, to, te, ix, lt, co, ok, hi, EA, en, ec, si, st, sc, SA, sn, sk⟩ := p
  simp only at h
  subst h
  rw [show Po.bare ⟨4, fr, to, te, ix, lt, co, ok, hi, EA, en, ec, si, st, sc, SA, sn, sk⟩ = ⟨4, fr, to, te, ix, 0, 0, ok, hi, none, 0, 0, 0, 0, 0, none, 0, 0⟩ from rfl]
  simp only [Po.v, Po.cs]
  go_enter Try.func35, Try.ntmps35
  go_wp2_with fail
  go_region_held3 (fun w' => w'.cell? ⟨w.heap.size, 4, none⟩ = some (.int .i64 ix) ∧ w'.cell? ⟨w.heap.size, 7, none⟩ = some (.bool ok) ∧ w'.cell? ⟨w.heap.size, 8, none⟩ = some (.int .i64 hi)) (go_keep) (fail)
  go_wp2_with fail
  exact bodyPost_ret (v := .agg #[.int .i64 4, .int .i64 fr, .int .i64 to, .int .i64 te, .int .i64 ix, .int .i64 0, .int .i64 0, .bool ok, .int .i64 hi, .slice none 0 0, .int .i64 0, .int .i64 0, .int .i64 0, .slice none 0 0]) (by simp [results, Try.results35, go_sem]) rfl ⟨rfl, Bd (Ba (Ba (Ba (B0 w) _) _) _)⟩
theorem bare_5 (p : Po) (h : p.kd = 5) (w : World) : Calls Try.prog 35 #[p.v] w fun e w' => e = .returned p.bare.v ∧ Below w.heap.size w w' := by
  obtain ⟨kd, fr, to, te, ix, lt, co, ok, hi, EA, en, ec, si, st, sc, SA, sn, sk⟩ := p
  simp only at h
  subst h
  rw [show Po.bare ⟨5, fr, to, te, ix, lt, co, ok, hi, EA, en, ec, si, st, sc, SA, sn, sk⟩ = ⟨5, fr, to, te, 0, 0, 0, false, hi, none, 0, 0, si, st, sc, SA, sn, sk⟩ from rfl]
  simp only [Po.v, Po.cs]
  go_enter Try.func35, Try.ntmps35
  go_wp2_with fail
  go_region_held3 (fun w' => w'.cell? ⟨w.heap.size, 8, none⟩ = some (.int .i64 hi) ∧ w'.cell? ⟨w.heap.size, 10, none⟩ = some (.int .i64 si) ∧ w'.cell? ⟨w.heap.size, 11, none⟩ = some (.int .i64 st) ∧ w'.cell? ⟨w.heap.size, 12, none⟩ = some (.int .i64 sc) ∧ w'.cell? ⟨w.heap.size, 13, none⟩ = some (.slice SA sn sk)) (go_keep) (fail)
  go_wp2_with fail
  exact bodyPost_ret (v := .agg #[.int .i64 5, .int .i64 fr, .int .i64 to, .int .i64 te, .int .i64 0, .int .i64 0, .int .i64 0, .bool false, .int .i64 hi, .slice none 0 0, .int .i64 si, .int .i64 st, .int .i64 sc, .slice SA sn sk]) (by simp [results, Try.results35, go_sem]) rfl ⟨rfl, Bd (Ba (Ba (Ba (B0 w) _) _) _)⟩
theorem bare_6 (p : Po) (h : p.kd = 6) (w : World) : Calls Try.prog 35 #[p.v] w fun e w' => e = .returned p.bare.v ∧ Below w.heap.size w w' := by
  obtain ⟨kd, fr, to, te, ix, lt, co, ok, hi, EA, en, ec, si, st, sc, SA, sn, sk⟩ := p
  simp only at h
  subst h
  rw [show Po.bare ⟨6, fr, to, te, ix, lt, co, ok, hi, EA, en, ec, si, st, sc, SA, sn, sk⟩ = ⟨6, fr, to, te, ix, 0, 0, false, hi, none, 0, 0, 0, 0, 0, none, 0, 0⟩ from rfl]
  simp only [Po.v, Po.cs]
  go_enter Try.func35, Try.ntmps35
  go_wp2_with fail
  go_region_held3 (fun w' => w'.cell? ⟨w.heap.size, 4, none⟩ = some (.int .i64 ix) ∧ w'.cell? ⟨w.heap.size, 8, none⟩ = some (.int .i64 hi)) (go_keep) (fail)
  go_wp2_with fail
  exact bodyPost_ret (v := .agg #[.int .i64 6, .int .i64 fr, .int .i64 to, .int .i64 te, .int .i64 ix, .int .i64 0, .int .i64 0, .bool false, .int .i64 hi, .slice none 0 0, .int .i64 0, .int .i64 0, .int .i64 0, .slice none 0 0]) (by simp [results, Try.results35, go_sem]) rfl ⟨rfl, Bd (Ba (Ba (Ba (B0 w) _) _) _)⟩
theorem bare_any (p : Po) (h : wiB p.kd 1 6 = true) (w : World) : Calls Try.prog 35 #[p.v] w fun e w' => e = .returned p.bare.v ∧ Below w.heap.size w w' := by
  have h' : 1 ≤ p.kd ∧ p.kd ≤ 6 := by simpa [wiB] using h
  have : p.kd = 1 ∨ p.kd = 2 ∨ p.kd = 3 ∨ p.kd = 4 ∨ p.kd = 5 ∨ p.kd = 6 := by omega
  rcases this with e | e | e | e | e | e
  · exact bare_1 p e w
  · exact bare_2 p e w
  · exact bare_3 p e w
  · exact bare_4 p e w
  · exact bare_5 p e w
  · exact bare_6 p e w
end Go.Proofs.Ytnphnaggamfoiaa
