/- Numbers as bytes, the highest first: plain laws. No program in sight. -/
import Derived.Test.YtnphnaggamfoiaaArgs
namespace Go.Proofs.Ytnphnaggamfoiaa.Wr
open Go.RowKit
set_option linter.unusedVariables false
set_option maxRecDepth 20000
set_option linter.unusedSimpArgs false

def be : Nat → Int → List Int
  | 0, _ => []
  | n + 1, v => be n (v / 256) ++ [v % 256]
def num (xs : List Int) : Int := xs.foldl (fun n c => n * 256 + c) 0
def p256 (n : Nat) : Int := 256 ^ n

theorem p256_succ (n : Nat) : p256 (n + 1) = p256 n * 256 := by simp [p256, Int.pow_succ]
theorem p256_pos (n : Nat) : 0 < p256 n := by simp only [p256]; exact Int.pow_pos (by omega)
theorem be_length (n : Nat) (v : Int) : (be n v).length = n := by
  induction n generalizing v with
  | zero => rfl
  | succ n ih => simp [be, ih]
theorem be_byt (n : Nat) (v : Int) : Byt (be n v) := by
  induction n generalizing v with
  | zero => intro x hx; simp [be] at hx
  | succ n ih =>
    intro x hx
    simp only [be, List.mem_append, List.mem_singleton] at hx
    rcases hx with hx | hx
    · exact ih _ x hx
    · omega
theorem be_add (m n : Nat) (v : Int) : be (m + n) v = be m (v / p256 n) ++ be n v := by
  induction n generalizing v with
  | zero => simp [be, p256]
  | succ n ih =>
    have e : v / 256 / p256 n = v / p256 (n + 1) := by rw [p256_succ, Int.mul_comm, Int.ediv_ediv_of_nonneg (by omega)]
    rw [← Nat.add_assoc]
    simp only [be]
    rw [ih, e, List.append_assoc]
theorem num_append (xs : List Int) (c : Int) : num (xs ++ [c]) = num xs * 256 + c := by simp [num]
theorem num_nonneg {xs : List Int} (h : Byt xs) : 0 ≤ num xs := by
  rcases List.eq_nil_or_concat xs with rfl | ⟨ys, c, rfl⟩
  · simp [num]
  · have := num_nonneg (xs := ys) (fun x hx => h x (by simp [hx]))
    rw [List.concat_eq_append, num_append]
    have := h c (by simp)
    omega
  termination_by xs.length
  decreasing_by simp_all
theorem num_lt {xs : List Int} (h : Byt xs) : num xs < p256 xs.length := by
  rcases List.eq_nil_or_concat xs with rfl | ⟨ys, c, rfl⟩
  · simp [num, p256]
  · have := num_lt (xs := ys) (fun x hx => h x (by simp [hx]))
    rw [List.concat_eq_append, num_append, List.length_append, List.length_singleton, p256_succ]
    have := h c (by simp)
    omega
  termination_by xs.length
  decreasing_by simp_all
theorem be_num {xs : List Int} (h : Byt xs) : be xs.length (num xs) = xs := by
  rcases List.eq_nil_or_concat xs with rfl | ⟨ys, c, rfl⟩
  · rfl
  · have ih := be_num (xs := ys) (fun x hx => h x (by simp [hx]))
    have hc := h c (by simp)
    rw [List.concat_eq_append, num_append, List.length_append, List.length_singleton]
    simp only [be]
    rw [show (num ys * 256 + c) / 256 = num ys by omega, show (num ys * 256 + c) % 256 = c by omega, ih]
  termination_by xs.length
  decreasing_by simp_all
theorem num_be (n : Nat) (v : Int) : num (be n v) = v % p256 n := by
  induction n generalizing v with
  | zero => simp [be, num, p256]
  | succ n ih =>
    simp only [be]
    rw [num_append, ih, p256_succ]
    have hp := p256_pos n
    have h1 := Int.emod_nonneg (v / 256) (b := p256 n) (by omega)
    have h2 := Int.emod_lt_of_pos (v / 256) hp
    have h3 := Int.emod_add_mul_ediv (v / 256) (p256 n)
    have h4 := Int.emod_add_mul_ediv v 256
    refine ((Int.ediv_emod_unique (a := v) (b := p256 n * 256) (q := v / 256 / p256 n) (by omega)).2 ⟨?_, by omega, by omega⟩).2.symm
    rw [Int.mul_assoc, Int.mul_left_comm]
    generalize p256 n * (v / 256 / p256 n) = X at *
    omega
theorem be_inj {n : Nat} {u v : Int} (hu : 0 ≤ u) (hu1 : u < p256 n) (hv : 0 ≤ v) (hv1 : v < p256 n) (h : be n u = be n v) : u = v := by
  have h1 := num_be n u
  have h2 := num_be n v
  rw [h] at h1
  rw [Int.emod_eq_of_lt hu hu1] at h1
  rw [Int.emod_eq_of_lt hv hv1] at h2
  omega
end Go.Proofs.Ytnphnaggamfoiaa.Wr
