/- Floats: what is not below zero, and no NaN, stays so under the relay's sum. No program in sight. -/
import Derived.Laws.FloatArith
import Derived.Test.YtdnbbjhickjnmaaBase
namespace Go.Proofs.Ytdnbbjhickjnmaa
open Go.RowKit
set_option linter.unusedVariables false
set_option linter.unusedSimpArgs false

def Good (x : Nat) : Prop := x ≤ 9218868437227405312 ∨ x = 9223372036854775808
/-- A datum that is no NaN and not below zero. -/
def GD (d : Ieee.Datum) : Prop := (∃ m i, d = .number false m i) ∨ (∃ i, d = .number true 0 i) ∨ d = .infinity false
theorem d_inf : Ieee.double.infRung = 9218868437227405312 := by decide +kernel
theorem d_sign : Ieee.double.signWeight = 9223372036854775808 := by decide +kernel
theorem d_bin : Ieee.double.binade = 4503599627370496 := by decide +kernel
theorem read_pos (x : Nat) (h : x ≤ 9218868437227405312) : (∃ m i, Ieee.double.read x = .number false m i) ∨ Ieee.double.read x = .infinity false := by
  unfold Ieee.Format.read
  have h1 : x / 9223372036854775808 = 0 := Nat.div_eq_of_lt (by omega)
  have h2 : x % 9223372036854775808 = x := Nat.mod_eq_of_lt (by omega)
  simp only [d_sign, d_bin, d_inf, h1, h2]
  split
  · exact .inl ⟨_, _, rfl⟩
  · split
    · exact .inl ⟨_, _, rfl⟩
    · rw [if_pos (by omega)]
      exact .inr rfl
theorem read_neg0 : Ieee.double.read 9223372036854775808 = .number true 0 Ieee.double.leastPlace := by decide +kernel
theorem read_good (x : Nat) (h : Good x) : GD (Ieee.double.read x) := by
  rcases h with h | rfl
  · rcases read_pos x h with h | h
    · exact .inl h
    · exact .inr (.inr h)
  · exact .inr (.inl ⟨_, read_neg0⟩)
theorem nearest_pos (m : Nat) (i : Int) : Ieee.double.nearest false m i ≤ 9218868437227405312 := by
  unfold Ieee.Format.nearest
  split
  · simp [Ieee.Format.word]
  · simp only [Ieee.Format.word, Bool.false_eq_true, if_false, d_inf]
    exact Nat.min_le_right _ _
theorem write_good (d : Ieee.Datum) (h : GD d) : Good (Ieee.double.write d) := by
  rcases h with ⟨m, i, rfl⟩ | ⟨i, rfl⟩ | rfl
  · exact .inl (nearest_pos m i)
  · exact .inr (by simp [Ieee.Format.write, Ieee.Format.nearest, Ieee.Format.word, d_sign])
  · exact .inl (by simp [Ieee.Format.write, Ieee.Format.word, d_inf])
theorem product_good (m : Nat) (i : Int) (hm : m ≠ 0) (d : Ieee.Datum) (h : GD d) : ∃ r, (Ieee.Datum.number false m i).product d = some r ∧ GD r := by
  rcases h with ⟨n, j, rfl⟩ | ⟨j, rfl⟩ | rfl
  · exact ⟨_, rfl, .inl ⟨_, _, rfl⟩⟩
  · exact ⟨_, rfl, .inr (.inl ⟨i + j, by simp⟩)⟩
  · exact ⟨.infinity false, by simp [Ieee.Datum.product, hm], .inr (.inr rfl)⟩
theorem signed_pos (m up : Nat) : 0 ≤ Ieee.signed false m up := Int.natCast_nonneg (m <<< up)
theorem signed_neg0 (up : Nat) : Ieee.signed true 0 up = 0 := by simp [Ieee.signed]
theorem gd_sum (b : Bool) (tot base : Int) (h : 0 ≤ tot) : GD (.number (if tot = 0 then b else decide (tot < 0)) tot.natAbs base) := by
  by_cases h0 : tot = 0
  · subst h0
    cases b
    · exact .inl ⟨_, _, rfl⟩
    · exact .inr (.inl ⟨_, rfl⟩)
  · rw [if_neg h0, decide_eq_false (by omega)]
    exact .inl ⟨_, _, rfl⟩
theorem sum_good (d e : Ieee.Datum) (h : GD d) (k : GD e) : ∃ r, d.sum e = some r ∧ GD r := by
  rcases h with ⟨m, i, rfl⟩ | ⟨i, rfl⟩ | rfl <;> rcases k with ⟨n, j, rfl⟩ | ⟨j, rfl⟩ | rfl
  · exact ⟨_, rfl, gd_sum _ _ _ (Int.add_nonneg (signed_pos _ _) (signed_pos _ _))⟩
  · exact ⟨_, rfl, gd_sum _ _ _ (Int.add_nonneg (signed_pos _ _) (by rw [signed_neg0]; exact Int.le_refl _))⟩
  · exact ⟨.infinity false, rfl, .inr (.inr rfl)⟩
  · exact ⟨_, rfl, gd_sum _ _ _ (Int.add_nonneg (by rw [signed_neg0]; exact Int.le_refl _) (signed_pos _ _))⟩
  · exact ⟨_, rfl, gd_sum _ _ _ (Int.add_nonneg (by rw [signed_neg0]; exact Int.le_refl _) (by rw [signed_neg0]; exact Int.le_refl _))⟩
  · exact ⟨.infinity false, rfl, .inr (.inr rfl)⟩
  · exact ⟨.infinity false, rfl, .inr (.inr rfl)⟩
  · exact ⟨.infinity false, rfl, .inr (.inr rfl)⟩
  · exact ⟨.infinity false, by simp [Ieee.Datum.sum], .inr (.inr rfl)⟩

/-- 0.75 of the one and 0.25 of the other. -/
def mulF (c x : Nat) : Nat := (floatBits .mul .f64 c x).getD 0
def addF (x y : Nat) : Nat := (floatBits .add .f64 x y).getD 0
def mixF (s t : Nat) : Nat := addF (mulF 4604930618986332160 s) (mulF 4598175219545276416 t)
theorem read_c75 : Ieee.double.read 4604930618986332160 = .number false 6755399441055744 (-53) := by decide +kernel
theorem read_c25 : Ieee.double.read 4598175219545276416 = .number false 4503599627370496 (-54) := by decide +kernel
theorem mul_good (c m : Nat) (i : Int) (hc : Ieee.double.read c = .number false m i) (hm : m ≠ 0) (x : Nat) (h : Good x) : floatBits .mul .f64 c x = some (mulF c x) ∧ Good (mulF c x) := by
  obtain ⟨r, hr, hg⟩ := product_good m i hm _ (read_good x h)
  have e : floatBits .mul .f64 c x = some (Ieee.double.write r) := by
    show ((Ieee.double.read c).product (Ieee.double.read x)).map Ieee.double.write = _
    rw [hc, hr]; rfl
  unfold mulF
  rw [e]
  exact ⟨rfl, write_good r hg⟩
theorem mul75 (x : Nat) (h : Good x) : floatBits .mul .f64 4604930618986332160 x = some (mulF 4604930618986332160 x) ∧ Good (mulF 4604930618986332160 x) := mul_good _ _ _ read_c75 (by omega) x h
theorem mul25 (x : Nat) (h : Good x) : floatBits .mul .f64 4598175219545276416 x = some (mulF 4598175219545276416 x) ∧ Good (mulF 4598175219545276416 x) := mul_good _ _ _ read_c25 (by omega) x h
theorem add_good (x y : Nat) (h : Good x) (k : Good y) : floatBits .add .f64 x y = some (addF x y) ∧ Good (addF x y) := by
  obtain ⟨r, hr, hg⟩ := sum_good _ _ (read_good x h) (read_good y k)
  have e : floatBits .add .f64 x y = some (Ieee.double.write r) := by
    show ((Ieee.double.read x).sum (Ieee.double.read y)).map Ieee.double.write = _
    rw [hr]; rfl
  unfold addF
  rw [e]
  exact ⟨rfl, write_good r hg⟩
theorem mix_good (s t : Nat) (h : Good s) (k : Good t) : Good (mixF s t) := (add_good _ _ (mul75 s h).2 (mul25 t k).2).2

theorem order_self (x : Nat) (h : Good x) : FloatKind.f64.format.order x x = some .eq := by
  show (Ieee.double.read x).order (Ieee.double.read x) = _
  rcases read_good x h with ⟨m, i, e⟩ | ⟨i, e⟩ | e <;> rw [e] <;> simp [Ieee.Datum.order]

/-- What the relay takes for ticks. -/
def tickB (t : Nat) : Bool := (FloatKind.f64.format.order t 0 == some .gt || FloatKind.f64.format.order t 0 == some .eq) && (FloatKind.f64.format.order t 9218868437227405311 == some .lt || FloatKind.f64.format.order t 9218868437227405311 == some .eq)
theorem read_zero : Ieee.double.read 0 = .number false 0 Ieee.double.leastPlace := by decide +kernel
theorem read_max : Ieee.double.read 9218868437227405311 = .number false 9007199254740991 971 := by decide +kernel
theorem cmp_gt {a b : Int} (h : compare a b = .gt) : b < a := by
  have e : compare a b = if a < b then .lt else if a = b then .eq else .gt := rfl
  rw [e] at h
  split at h
  · cases h
  · split at h
    · cases h
    · omega
theorem good_of_order (t : Nat) (hw : t < 18446744073709551616) (h : (FloatKind.f64.format.order t 0 == some .gt || FloatKind.f64.format.order t 0 == some .eq) = true) : Good t := by
  have h' : ((Ieee.double.read t).order (.number false 0 Ieee.double.leastPlace) == some .gt || (Ieee.double.read t).order (.number false 0 Ieee.double.leastPlace) == some .eq) = true := by
    rw [← read_zero]; exact h
  clear h
  rcases Nat.lt_or_ge t 9223372036854775808 with h1 | h1
  · left
    rcases Nat.lt_or_ge 9218868437227405312 t with h2 | h2
    · exfalso
      have e : Ieee.double.read t = .nan false (t - 9218868437227405312) := by
        unfold Ieee.Format.read
        have e1 : t / 9223372036854775808 = 0 := Nat.div_eq_of_lt (by omega)
        have e2 : t % 9223372036854775808 = t := Nat.mod_eq_of_lt (by omega)
        simp only [d_sign, d_bin, d_inf, e1, e2]
        rw [if_neg (by omega), if_neg (by omega), if_neg (by omega)]
        rfl
      rw [e] at h'
      simp [Ieee.Datum.order] at h'
    · exact h2
  · right
    rcases Nat.lt_or_ge 9223372036854775808 t with h2 | h2
    · exfalso
      obtain ⟨r, rfl⟩ : ∃ r, t = 9223372036854775808 + r := ⟨t - 9223372036854775808, by omega⟩
      have e1 : (9223372036854775808 + r) / 9223372036854775808 = 1 := by omega
      have e2 : (9223372036854775808 + r) % 9223372036854775808 = r := by omega
      unfold Ieee.Format.read at h'
      simp only [d_sign, d_bin, d_inf, e1, e2] at h'
      split at h'
      · simp [Ieee.Datum.order, Ieee.signed] at h'
        rcases h' with h' | h'
        · have := cmp_gt h'
          omega
        · omega
      · split at h'
        · simp only [Ieee.Datum.order, Ieee.signed] at h'
          generalize (Ieee.double.leastPlace + ((r / 4503599627370496 - 1 : Nat) : Int) - min (Ieee.double.leastPlace + ((r / 4503599627370496 - 1 : Nat) : Int)) Ieee.double.leastPlace).toNat = up at h'
          have hp : 0 < (4503599627370496 + r % 4503599627370496) <<< up := by rw [Nat.shiftLeft_eq]; exact Nat.mul_pos (by omega) (Nat.two_pow_pos _)
          generalize (4503599627370496 + r % 4503599627370496) <<< up = M at h' hp
          simp at h'
          rcases h' with h' | h'
          · have := cmp_gt h'
            omega
          · omega
        · split at h'
          · simp [Ieee.Datum.order] at h'
          · simp [Ieee.Datum.order] at h'
    · omega
theorem tick_good (t : Nat) (hw : t < 18446744073709551616) (h : tickB t = true) : Good t := by
  unfold tickB at h
  rw [Bool.and_eq_true] at h
  exact good_of_order t hw h.1
end Go.Proofs.Ytdnbbjhickjnmaa
