/- A number's bytes, counted up: plain laws. -/
import Derived.Test.YtodijebpoipeiaaW12
namespace Go.Proofs.Ytodijebpoipeiaa
open Go.RowKit
set_option linter.unusedVariables false
set_option linter.unusedSimpArgs false

theorem be_zeros (j : Nat) (m : Int) (h : m % p256 j = 0) : be j m = List.replicate j 0 := by
  induction j generalizing m with
  | zero => rfl
  | succ j ih =>
    have hp := p256_pos j
    rw [p256_succ] at h
    have hd : p256 j * 256 ∣ m := Int.dvd_of_emod_eq_zero h
    obtain ⟨q, rfl⟩ := hd
    have h1 : p256 j * 256 * q = 256 * (p256 j * q) := by rw [Int.mul_comm (p256 j), Int.mul_assoc]
    simp only [be]
    rw [h1, Int.mul_ediv_cancel_left _ (by omega), Int.mul_emod_right, ih _ (Int.mul_emod_right _ _), List.replicate_succ']

/-- Behind j bytes FF: what is ahead of them, and these. -/
theorem be_ff (j : Nat) (n : Int) (h : n % p256 j = p256 j - 1) : n + 1 = (n / p256 j + 1) * p256 j := by
  have h1 := Int.emod_add_mul_ediv n (p256 j)
  rw [h] at h1
  rw [Int.add_mul, Int.one_mul, Int.mul_comm]
  omega

theorem ff_succ (j : Nat) (n : Int) (h : n % p256 j = p256 j - 1) (hb : n / p256 j % 256 = 255) : n % p256 (j + 1) = p256 (j + 1) - 1 := by
  have hp := p256_pos j
  have h1 := be_ff j n h
  have h2 := Int.emod_add_mul_ediv (n / p256 j) 256
  rw [hb] at h2
  have h3 : n = p256 j * 256 * (n / p256 j / 256) + (p256 j * 256 - 1) := by
    have e : n / p256 j + 1 = 256 * (n / p256 j / 256 + 1) := by omega
    rw [e] at h1
    have e2 : 256 * (n / p256 j / 256 + 1) * p256 j = p256 j * 256 * (n / p256 j / 256) + p256 j * 256 := by
      rw [Int.mul_comm (256 * _), Int.mul_add, Int.mul_add, Int.mul_one, ← Int.mul_assoc]
    omega
  rw [p256_succ]
  rw [h3]
  rw [Int.add_comm, Int.add_mul_emod_self_left]
  exact Int.emod_eq_of_lt (by omega) (by omega)

/-- The next number's bytes: the first byte from behind that is not FF is one more, those behind it 00. -/
theorem be_next (k j : Nat) (n : Int) (hj : j < k) (h : n % p256 j = p256 j - 1) (hb : n / p256 j % 256 ≠ 255) : be k (n + 1) = be (k - j - 1) (n / p256 j / 256) ++ ([n / p256 j % 256 + 1] ++ List.replicate j 0) := by
  have hp := p256_pos j
  have h1 := be_ff j n h
  obtain ⟨m, rfl⟩ : ∃ m, k = m + 1 + j := ⟨k - j - 1, by omega⟩
  rw [show m + 1 + j - j - 1 = m by omega]
  rw [be_add, h1, Int.mul_ediv_cancel _ (by omega), be_zeros j _ (Int.mul_emod_left _ _), ← List.append_assoc]
  congr 1
  simp only [be]
  rw [show (n / p256 j + 1) / 256 = n / p256 j / 256 by omega, show (n / p256 j + 1) % 256 = n / p256 j % 256 + 1 by omega]

theorem next_fits (k j : Nat) (n : Int) (hj : j < k) (h0 : 0 ≤ n) (h : n % p256 j = p256 j - 1) (hb : n / p256 j % 256 ≠ 255) (hk : n < p256 k) : n + 1 < p256 k := by
  have hp := p256_pos j
  have h1 := be_ff j n h
  obtain ⟨m, rfl⟩ : ∃ m, k = m + 1 + j := ⟨k - j - 1, by omega⟩
  rw [p256_add] at hk ⊢
  have hu : n / p256 j < p256 (m + 1) := Int.ediv_lt_of_lt_mul hp hk
  rw [p256_succ] at hu ⊢
  have hq := p256_pos m
  rw [h1]
  have h2 : n / p256 j + 1 < p256 m * 256 := by omega
  exact Int.mul_lt_mul_of_pos_right h2 hp
theorem next_over (k : Nat) (n : Int) (h0 : 0 ≤ n) (hk : n < p256 k) (h : n % p256 k = p256 k - 1) : n + 1 = p256 k := by
  rw [Int.emod_eq_of_lt h0 hk] at h
  omega
theorem be_split (k j : Nat) (n : Int) (hj : j < k) : be (k - j) (n / p256 j) = be (k - j - 1) (n / p256 j / 256) ++ [n / p256 j % 256] := by
  obtain ⟨m, hm⟩ : ∃ m, k - j = m + 1 := ⟨k - j - 1, by omega⟩
  rw [hm]; rfl
theorem p256_succ_div (j : Nat) (n : Int) : n / p256 j / 256 = n / p256 (j + 1) := by
  rw [p256_succ, Int.ediv_ediv_of_nonneg (by have := p256_pos j; omega)]
end Go.Proofs.Ytodijebpoipeiaa
