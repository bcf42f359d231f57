/- Floats that are no NaN and not below zero stand to each other as their words do. No program in sight. -/
import Derived.Test.YtdnbbjhickjnmaaF2
namespace Go.Proofs.Ytdnbbjhickjnmaa
open Go.RowKit
set_option linter.unusedVariables false
set_option linter.unusedSimpArgs false

def key (x : Nat) : Nat := if x = 9223372036854775808 then 0 else x
/-- What a word below infinity's stands for, counted in the least number. -/
def mag (r : Nat) : Nat := if r < 4503599627370496 then r else (4503599627370496 + r % 4503599627370496) * 2 ^ (r / 4503599627370496 - 1)
theorem mag_lt {r r' : Nat} (h : r < r') : mag r < mag r' := by
  unfold mag
  by_cases h1 : r < 4503599627370496
  · rw [if_pos h1]
    by_cases h2 : r' < 4503599627370496
    · rw [if_pos h2]; exact h
    · rw [if_neg h2]
      have hp : 0 < 2 ^ (r' / 4503599627370496 - 1) := Nat.two_pow_pos _
      have h3 := Nat.le_mul_of_pos_right (4503599627370496 + r' % 4503599627370496) hp
      omega
  · have h2 : ¬ r' < 4503599627370496 := by omega
    rw [if_neg h1, if_neg h2]
    by_cases he : r / 4503599627370496 = r' / 4503599627370496
    · rw [he]
      exact Nat.mul_lt_mul_of_pos_right (by omega) (Nat.two_pow_pos _)
    · have hlt : r / 4503599627370496 < r' / 4503599627370496 := by omega
      obtain ⟨d, hd⟩ : ∃ d, r' / 4503599627370496 - 1 = (r / 4503599627370496 - 1) + 1 + d := ⟨r' / 4503599627370496 - 1 - (r / 4503599627370496 - 1) - 1, by omega⟩
      rw [hd]
      have h3 : (4503599627370496 + r % 4503599627370496) * 2 ^ (r / 4503599627370496 - 1) < 9007199254740992 * 2 ^ (r / 4503599627370496 - 1) := Nat.mul_lt_mul_of_pos_right (by omega) (Nat.two_pow_pos _)
      have h4 : 9007199254740992 * 2 ^ (r / 4503599627370496 - 1) = 4503599627370496 * 2 ^ (r / 4503599627370496 - 1 + 1) := by rw [Nat.pow_succ]; omega
      have h5 : 4503599627370496 * 2 ^ (r / 4503599627370496 - 1 + 1) ≤ 4503599627370496 * 2 ^ (r / 4503599627370496 - 1 + 1 + d) := Nat.mul_le_mul_left _ (Nat.pow_le_pow_right (by omega) (by omega))
      have h6 : 4503599627370496 * 2 ^ (r / 4503599627370496 - 1 + 1 + d) ≤ (4503599627370496 + r' % 4503599627370496) * 2 ^ (r / 4503599627370496 - 1 + 1 + d) := Nat.mul_le_mul_right _ (by omega)
      omega
theorem mag_cmp (r r' : Nat) : compare ((mag r : Nat) : Int) ((mag r' : Nat) : Int) = compare r r' := by
  rcases Nat.lt_trichotomy r r' with h | h | h
  · rw [Nat.compare_eq_lt.2 h]
    have := mag_lt h
    exact Int.compare_eq_lt.2 (by omega)
  · subst h
    rw [Nat.compare_eq_eq.2 rfl]
    exact Int.compare_eq_eq.2 rfl
  · rw [Nat.compare_eq_gt.2 h]
    have := mag_lt h
    exact Int.compare_eq_gt.2 (by omega)
/-- A number below infinity: M * 2^p, and how that stands in the least number. -/
def Fin (d : Ieee.Datum) (r : Nat) : Prop := ∃ s M p, d = .number s M p ∧ (s = true → M = 0) ∧ ∃ u : Nat, p = -1074 + (u : Int) ∧ M * 2 ^ u = mag r
theorem signed_any (s : Bool) (M up : Nat) (h : s = true → M = 0) : Ieee.signed s M up = ((M * 2 ^ up : Nat) : Int) := by
  cases s
  · exact signed_nat M up
  · rw [h rfl]; simp [Ieee.signed]
theorem fin_read (x : Nat) (h : x < 9218868437227405312) : Fin (Ieee.double.read x) x := by
  unfold Ieee.Format.read
  have h1 : x / 9223372036854775808 = 0 := Nat.div_eq_of_lt (by omega)
  have h2 : x % 9223372036854775808 = x := Nat.mod_eq_of_lt (by omega)
  simp only [d_sign, d_bin, d_inf, h1, h2, d_least]
  split
  · rename_i hb
    exact ⟨_, _, _, rfl, fun h => by simp at h, 0, by omega, by simp [mag, hb]⟩
  · rename_i hb
    refine ⟨_, _, _, rfl, fun h => by simp at h, x / 4503599627370496 - 1, rfl, by simp [mag, hb]⟩
theorem fin_neg0 : Fin (Ieee.double.read 9223372036854775808) 0 := by
  rw [read_neg0, d_least]
  exact ⟨true, 0, _, rfl, fun _ => rfl, 0, by omega, by simp [mag]⟩
theorem fin_order {d e : Ieee.Datum} {r r' : Nat} (h : Fin d r) (k : Fin e r') : d.order e = some (compare r r') := by
  obtain ⟨s, M, p, rfl, hs, u, hp, hM⟩ := h
  obtain ⟨t, M', p', rfl, ht, u', hp', hM'⟩ := k
  rw [← mag_cmp, ← hM, ← hM']
  simp only [Ieee.Datum.order, signed_any _ _ _ hs, signed_any _ _ _ ht]
  congr 1
  have e1 : M * 2 ^ u = M * 2 ^ (p - min p p').toNat * 2 ^ (min u u') := by rw [Nat.mul_assoc, ← Nat.pow_add]; congr 2; omega
  have e2 : M' * 2 ^ u' = M' * 2 ^ (p' - min p p').toNat * 2 ^ (min u u') := by rw [Nat.mul_assoc, ← Nat.pow_add]; congr 2; omega
  rw [e1, e2]
  have hp0 : 0 < 2 ^ (min u u') := Nat.two_pow_pos _
  generalize 2 ^ (min u u') = K at hp0
  generalize M * 2 ^ (p - min p p').toNat = X
  generalize M' * 2 ^ (p' - min p p').toNat = Y
  rcases Nat.lt_trichotomy X Y with h | h | h
  · have := Nat.mul_lt_mul_of_pos_right h hp0
    rw [Int.compare_eq_lt.2 (by omega), Int.compare_eq_lt.2 (by omega)]
  · subst h
    rw [Int.compare_eq_eq.2 rfl, Int.compare_eq_eq.2 rfl]
  · have := Nat.mul_lt_mul_of_pos_right h hp0
    rw [Int.compare_eq_gt.2 (by omega), Int.compare_eq_gt.2 (by omega)]
theorem read_inf : Ieee.double.read 9218868437227405312 = .infinity false := by decide +kernel
theorem good_key (x : Nat) (h : Good x) : (Fin (Ieee.double.read x) (key x) ∧ key x < 9218868437227405312) ∨ (Ieee.double.read x = .infinity false ∧ key x = 9218868437227405312) := by
  rcases h with h | rfl
  · have hk : key x = x := by unfold key; rw [if_neg (by omega)]
    rw [hk]
    rcases Nat.lt_or_ge x 9218868437227405312 with h1 | h1
    · exact .inl ⟨fin_read x h1, h1⟩
    · obtain rfl : x = 9218868437227405312 := by omega
      exact .inr ⟨read_inf, rfl⟩
  · left
    exact ⟨by have := fin_neg0; unfold key; rw [if_pos rfl]; exact this, by unfold key; rw [if_pos rfl]; omega⟩
theorem order_key (x y : Nat) (h : Good x) (k : Good y) : FloatKind.f64.format.order x y = some (compare (key x) (key y)) := by
  show (Ieee.double.read x).order (Ieee.double.read y) = _
  rcases good_key x h with ⟨h1, h2⟩ | ⟨h1, h2⟩ <;> rcases good_key y k with ⟨k1, k2⟩ | ⟨k1, k2⟩
  · exact fin_order h1 k1
  · obtain ⟨s, M, p, e, _⟩ := h1
    rw [e, k1, k2, Nat.compare_eq_lt.2 h2]
    rfl
  · obtain ⟨s, M, p, e, _⟩ := k1
    rw [e, h1, h2, Nat.compare_eq_gt.2 k2]
    rfl
  · rw [h1, k1, h2, k2, Nat.compare_eq_eq.2 rfl]
    rfl
theorem lt_key {x y : Nat} (h : Good x) (k : Good y) : (FloatKind.f64.format.order x y == some .lt) = decide (key x < key y) := by
  rw [order_key x y h k]
  rcases Nat.lt_trichotomy (key x) (key y) with c | c | c
  · rw [Nat.compare_eq_lt.2 c, decide_eq_true c]; rfl
  · rw [Nat.compare_eq_eq.2 c, decide_eq_false (by omega)]; rfl
  · rw [Nat.compare_eq_gt.2 c, decide_eq_false (by omega)]; rfl
theorem le_key {x y : Nat} (h : Good x) (k : Good y) : (FloatKind.f64.format.order x y == some .lt || FloatKind.f64.format.order x y == some .eq) = decide (key x ≤ key y) := by
  rw [order_key x y h k]
  rcases Nat.lt_trichotomy (key x) (key y) with c | c | c
  · rw [Nat.compare_eq_lt.2 c, decide_eq_true (by omega)]; rfl
  · rw [Nat.compare_eq_eq.2 c, decide_eq_true (by omega)]; rfl
  · rw [Nat.compare_eq_gt.2 c, decide_eq_false (by omega)]; rfl
theorem ge_zero {x : Nat} (h : Good x) : (FloatKind.f64.format.order x 0 == some .gt || FloatKind.f64.format.order x 0 == some .eq) = true := by
  rw [order_key x 0 h (.inl (by omega)), show key 0 = 0 from by decide]
  rcases Nat.eq_zero_or_pos (key x) with c | c
  · rw [Nat.compare_eq_eq.2 c]; rfl
  · rw [Nat.compare_eq_gt.2 c]; rfl
end Go.Proofs.Ytdnbbjhickjnmaa
