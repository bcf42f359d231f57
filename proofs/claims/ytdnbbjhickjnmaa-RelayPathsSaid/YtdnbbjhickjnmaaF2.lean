/- Floats that stand for m * 2^e exactly. No program in sight. -/
import Derived.Test.YtdnbbjhickjnmaaF1
namespace Go.Proofs.Ytdnbbjhickjnmaa
open Go.RowKit
set_option linter.unusedVariables false
set_option linter.unusedSimpArgs false

/-- d is m * 2^e. -/
def IsV (d : Ieee.Datum) (m : Nat) (e : Int) : Prop := ∃ M p, d = .number false M p ∧ ∃ s : Nat, e = p + s ∧ M = m * 2 ^ s
theorem isV_self (m : Nat) (e : Int) : IsV (.number false m e) m e := ⟨m, e, rfl, 0, by simp, by simp⟩
theorem isV_shift {d : Ieee.Datum} {m : Nat} {e : Int} (k : Nat) (h : IsV d m (e + k)) : IsV d (m * 2 ^ k) e ∨ ∃ M p, d = .number false M p ∧ e < p := by
  obtain ⟨M, p, rfl, s, hs, rfl⟩ := h
  by_cases hp : p ≤ e
  · left
    refine ⟨_, p, rfl, (e - p).toNat, by omega, ?_⟩
    rw [Nat.mul_assoc, ← Nat.pow_add]
    congr 2
    omega
  · right
    exact ⟨_, p, rfl, by omega⟩
theorem product_isV {d d' : Ieee.Datum} {m m' : Nat} {e e' : Int} (h : IsV d m e) (h' : IsV d' m' e') : ∃ r, d.product d' = some r ∧ IsV r (m * m') (e + e') := by
  obtain ⟨M, p, rfl, s, hs, rfl⟩ := h
  obtain ⟨M', p', rfl, s', hs', rfl⟩ := h'
  refine ⟨.number (false ^^ false) (m * 2 ^ s * (m' * 2 ^ s')) (p + p'), rfl, m * 2 ^ s * (m' * 2 ^ s'), p + p', rfl, s + s', by omega, ?_⟩
  rw [Nat.pow_add]
  simp only [Nat.mul_comm, Nat.mul_left_comm, Nat.mul_assoc]
theorem signed_nat (m up : Nat) : Ieee.signed false m up = ((m * 2 ^ up : Nat) : Int) := by simp [Ieee.signed, Nat.shiftLeft_eq]
theorem sum_isV {d d' : Ieee.Datum} {m m' : Nat} {e : Int} (h : IsV d m e) (h' : IsV d' m' e) : ∃ r, d.sum d' = some r ∧ IsV r (m + m') e := by
  obtain ⟨M, p, rfl, s, hs, rfl⟩ := h
  obtain ⟨M', p', rfl, s', hs', rfl⟩ := h'
  have e1 : m * 2 ^ s * 2 ^ (p - min p p').toNat = m * 2 ^ (e - min p p').toNat := by
    rw [Nat.mul_assoc, ← Nat.pow_add]; congr 2; omega
  have e2 : m' * 2 ^ s' * 2 ^ (p' - min p p').toNat = m' * 2 ^ (e - min p p').toNat := by
    rw [Nat.mul_assoc, ← Nat.pow_add]; congr 2; omega
  refine ⟨_, rfl, (m + m') * 2 ^ (e - min p p').toNat, min p p', ?_, (e - min p p').toNat, by omega, rfl⟩
  rw [Nat.add_mul]
  simp only [signed_nat, e1, e2]
  generalize m * 2 ^ (e - min p p').toNat = X
  generalize m' * 2 ^ (e - min p p').toNat = Y
  rw [← Int.natCast_add, Int.natAbs_natCast]
  congr 1
  split
  · rfl
  · exact decide_eq_false (by omega)
theorem order_isV {d d' : Ieee.Datum} {m : Nat} {e : Int} (h : IsV d m e) (h' : IsV d' m e) : d.order d' = some .eq := by
  obtain ⟨M, p, rfl, s, hs, rfl⟩ := h
  obtain ⟨M', p', rfl, s', hs', rfl⟩ := h'
  have e1 : m * 2 ^ s * 2 ^ (p - min p p').toNat = m * 2 ^ (e - min p p').toNat := by
    rw [Nat.mul_assoc, ← Nat.pow_add]; congr 2; omega
  have e2 : m * 2 ^ s' * 2 ^ (p' - min p p').toNat = m * 2 ^ (e - min p p').toNat := by
    rw [Nat.mul_assoc, ← Nat.pow_add]; congr 2; omega
  simp only [Ieee.Datum.order, signed_nat, e1, e2]
  simp

theorem d_least : Ieee.double.leastPlace = -1074 := by decide +kernel
theorem d_frac : Ieee.double.fractionBits = 52 := rfl
theorem log2_mul (m t : Nat) (h : m ≠ 0) : (m * 2 ^ t).log2 = m.log2 + t := by
  induction t with
  | zero => simp
  | succ t ih =>
    rw [Nat.pow_succ, ← Nat.mul_assoc, Nat.mul_comm _ 2, Nat.log2_two_mul (Nat.mul_ne_zero h (Nat.pos_iff_ne_zero.1 (Nat.two_pow_pos t))), ih]
    omega
theorem cut_exact (m k drop : Nat) (hm : m ≠ 0) (hk : drop ≤ k) : Ieee.Toward.even.cut false (m * 2 ^ k) drop = m * 2 ^ (k - drop) := by
  have hl := log2_mul m k hm
  have e : m * 2 ^ k = 2 ^ drop * (m * 2 ^ (k - drop)) := by
    rw [Nat.mul_left_comm, ← Nat.pow_add]; congr 2; omega
  have hp : 0 < 2 ^ drop := Nat.two_pow_pos _
  unfold Ieee.Toward.cut
  rw [hl, show min drop (m.log2 + k + 2) = drop from by omega, Nat.one_shiftLeft]
  have e1 : m * 2 ^ k / 2 ^ drop = m * 2 ^ (k - drop) := by rw [e]; exact Nat.mul_div_cancel_left _ hp
  have e2 : m * 2 ^ k % 2 ^ drop = 0 := by rw [e]; exact Nat.mul_mod_right _ _
  simp only [e1, e2]
  have : ¬ (2 ^ drop < 2 * 0) := by omega
  have h2 : (2 ^ drop == 2 * 0) = false := by rw [beq_eq_false_iff_ne]; omega
  simp [h2]

/-- What is written of m * 2^e, m of at most 53 digits, reads as m * 2^e. -/
theorem write_isV {d : Ieee.Datum} {m : Nat} {e : Int} (h : IsV d m e) (hm : m < 9007199254740992) (h0 : -1000 ≤ e) (h1 : e ≤ 900) : IsV (Ieee.double.read (Ieee.double.write d)) m e := by
  obtain ⟨M, p, rfl, s, hs, rfl⟩ := h
  by_cases hz : m = 0
  · subst hz
    have e1 : Ieee.double.write (.number false (0 * 2 ^ s) p) = 0 := by simp [Ieee.Format.write, Ieee.Format.nearest, Ieee.Format.word]
    rw [e1, read_zero]
    exact ⟨0, _, rfl, (e + 1074).toNat, by rw [d_least]; omega, by simp⟩
  · have hl : m.log2 ≤ 52 := by
      have := (Nat.log2_lt hz (k := 53)).2 (by omega)
      omega
    have hlo : 2 ^ m.log2 ≤ m := Nat.log2_self_le hz
    have hhi : m < 2 ^ (m.log2 + 1) := Nat.lt_log2_self
    have hz' : m * 2 ^ s ≠ 0 := Nat.mul_ne_zero hz (Nat.pos_iff_ne_zero.1 (Nat.two_pow_pos s))
    have hlast : max (p + ((m * 2 ^ s).log2 : Nat) - (52 : Nat)) (-1074) = e + m.log2 - 52 := by
      rw [log2_mul m s hz]; omega
    have hk : Ieee.Toward.even.cut false ((m * 2 ^ s) <<< (p - (e + m.log2 - 52)).toNat) ((e + m.log2 - 52) - p).toNat = m * 2 ^ (52 - m.log2) := by
      rw [Nat.shiftLeft_eq, Nat.mul_assoc, ← Nat.pow_add, cut_exact m _ _ hz (by omega)]
      congr 2
      omega
    have hA : 4503599627370496 ≤ m * 2 ^ (52 - m.log2) := by
      have h3 := Nat.mul_le_mul_right (2 ^ (52 - m.log2)) hlo
      rw [← Nat.pow_add, show m.log2 + (52 - m.log2) = 52 from by omega] at h3
      exact h3
    have hB : m * 2 ^ (52 - m.log2) < 9007199254740992 := by
      have h3 := Nat.mul_lt_mul_of_pos_right hhi (Nat.two_pow_pos (52 - m.log2))
      rw [← Nat.pow_add, show m.log2 + 1 + (52 - m.log2) = 53 from by omega] at h3
      exact h3
    have e1 : Ieee.double.write (.number false (m * 2 ^ s) p) = (e + m.log2 - 52 + 1074).toNat * 4503599627370496 + m * 2 ^ (52 - m.log2) := by
      show Ieee.double.nearest false (m * 2 ^ s) p = _
      unfold Ieee.Format.nearest
      rw [if_neg hz']
      simp only [d_frac, d_least, d_bin, d_inf, hlast, hk]
      simp only [Ieee.Format.word, Bool.false_eq_true, if_false]
      rw [show (e + m.log2 - 52 - (-1074)) = e + m.log2 - 52 + 1074 from by omega]
      exact Nat.min_eq_left (by omega)
    rw [e1]
    generalize hMM : m * 2 ^ (52 - m.log2) = MM at hA hB
    generalize hQ : (e + m.log2 - 52 + 1074).toNat = Q
    have hQb : Q ≤ 2000 := by omega
    have hr : Ieee.double.read (Q * 4503599627370496 + MM) = .number false MM (-1074 + (Q : Int)) := by
      unfold Ieee.Format.read
      have f1 : (Q * 4503599627370496 + MM) / 9223372036854775808 = 0 := by omega
      have f2 : (Q * 4503599627370496 + MM) % 9223372036854775808 = Q * 4503599627370496 + MM := by omega
      have f3 : (Q * 4503599627370496 + MM) / 4503599627370496 = Q + 1 := by omega
      have f4 : (Q * 4503599627370496 + MM) % 4503599627370496 = MM - 4503599627370496 := by omega
      simp only [d_sign, d_bin, d_inf, f1, f2, f3, f4, d_least]
      rw [if_neg (by omega), if_pos (by omega)]
      simp
      omega
    rw [hr]
    refine ⟨MM, _, rfl, 52 - m.log2, ?_, hMM.symm⟩
    omega
end Go.Proofs.Ytdnbbjhickjnmaa
