/- The reference's writer: a number as bits: the plain law. -/
import Derived.Test.YtdnbbjhickjnmaaW3
import Derived.Laws.Bits128
namespace Go.Proofs.Ytdnbbjhickjnmaa.Wr
open Go.RowKit
set_option linter.unusedVariables false
set_option maxRecDepth 20000
set_option linter.unusedSimpArgs false

theorem i64_and1 (n : Int) : bits .and .i64 n 1 = n % 2 := by
  have h1 : (BitVec.ofInt 64 1).toNat = 2 ^ 1 - 1 := by decide
  have key : (BitVec.ofInt 64 n &&& BitVec.ofInt 64 1).toNat = (n % ((2 ^ 64 : Nat) : Int)).toNat % 2 ^ 1 := by
    rw [BitVec.toNat_and, BitVec.toNat_ofInt, h1, Nat.and_two_pow_sub_one_eq_mod]
  show IntKind.i64.wrap ((BitVec.ofInt 64 n &&& BitVec.ofInt 64 1).toNat : Nat) = n % 2
  rw [key, IntKind.wrap_i64]
  omega

def ints (xs : List Int) : List Value := xs.map fun x => .int .i64 x
theorem ints_length (xs : List Int) : (ints xs).length = xs.length := by simp [ints]
theorem ints_getElem? (xs : List Int) (k : Nat) : (ints xs)[k]? = xs[k]?.map fun x => .int .i64 x := by simp [ints]
theorem ints_one (xs : List Int) : ∀ u ∈ ints xs, u.oneCell' = true := by
  intro u hu
  simp only [ints, List.mem_map] at hu
  obtain ⟨x, _, rfl⟩ := hu
  rfl

/-- The last n bits of a number, the highest first. -/
def bitL (v : Int) : Nat → List Int
  | 0 => []
  | n + 1 => (v / 2 ^ n % 2) :: bitL v n
theorem bitL_length (v : Int) (n : Nat) : (bitL v n).length = n := by
  induction n with
  | zero => rfl
  | succ n ih => simp [bitL, ih]
theorem bitL_at (v : Int) : ∀ (n i : Nat), i < n → (bitL v n)[i]? = some (v / 2 ^ (n - 1 - i) % 2)
  | 0, i, h => by omega
  | n + 1, 0, h => by simp [bitL]
  | n + 1, i + 1, h => by
    simp only [bitL, List.getElem?_cons_succ]
    rw [bitL_at v n i (by omega)]
    congr 4
    omega
theorem bitL_drop (v : Int) (b : Nat) : ∀ a, (bitL v (a + b)).drop a = bitL v b
  | 0 => by simp
  | a + 1 => by
    rw [show a + 1 + b = (a + b) + 1 by omega]
    simp only [bitL, List.drop_succ_cons]
    exact bitL_drop v b a
def zb (v : Int) (k : Nat) : List Int := List.replicate (64 - k) 0 ++ bitL v k
theorem zb_length (v : Int) (k : Nat) (h : k ≤ 64) : (zb v k).length = 64 := by simp [zb, bitL_length]; omega
theorem zb_all (v : Int) : zb v 64 = bitL v 64 := by simp [zb]
theorem zb_at (v : Int) (k j : Nat) (h : k + j = 63) : (zb v k)[j]? = some 0 := by
  unfold zb
  rw [List.getElem?_append_left (by simp; omega)]
  simp [List.getElem?_replicate]
  omega
theorem zb_step (v : Int) (k j : Nat) (h : k + j = 63) : (zb v k).set j (v / 2 ^ k % 2) = zb v (k + 1) := by
  unfold zb
  rw [show 64 - k = j + 1 by omega, show 64 - (k + 1) = j by omega, List.replicate_succ', List.append_assoc, List.set_append_right _ _ (by simp)]
  simp [bitL]

def octN (xs : List Int) (a : Int) : Int := xs.foldl (fun n x => 2 * n + x) a
theorem pow2_pos (n : Nat) : (0 : Int) < 2 ^ n := Int.pow_pos (by omega)
theorem octN_bitL (v : Int) (r : Nat) : ∀ (j : Nat) (a : Int), octN ((bitL v (j + r)).take j) a = a * 2 ^ j + v / 2 ^ r % 2 ^ j
  | 0, a => by simp [octN, Int.emod_one]
  | j + 1, a => by
    rw [show j + 1 + r = (j + r) + 1 by omega]
    simp only [bitL, List.take_succ_cons, octN, List.foldl_cons]
    have ih := octN_bitL v r j (2 * a + v / 2 ^ (j + r) % 2)
    unfold octN at ih
    rw [ih]
    have e : v / 2 ^ (j + r) = v / 2 ^ r / 2 ^ j := by
      rw [Int.ediv_ediv_of_nonneg (Int.le_of_lt (pow2_pos r)), ← Int.pow_add, Nat.add_comm]
    rw [e]
    generalize v / 2 ^ r = u
    have hp := pow2_pos j
    rw [Int.pow_succ]
    generalize (2 : Int) ^ j = P at hp
    have h1 := Int.mul_ediv_add_emod u P
    have h2 := Int.emod_nonneg u (show P ≠ 0 by omega)
    have h3 := Int.emod_lt_of_pos u hp
    generalize u / P = q at h1
    generalize u % P = s at h1 h2 h3
    have hq : q = 2 * (q / 2) + q % 2 := by omega
    have hu : u = s + P * (q % 2) + P * 2 * (q / 2) := by
      rw [← h1]
      conv => lhs; rw [hq]
      rw [Int.mul_add, ← Int.mul_assoc]
      omega
    have hm : u % (P * 2) = s + P * (q % 2) := by
      rw [hu, Int.add_mul_emod_self_left]
      refine Int.emod_eq_of_lt ?_ ?_
      · have : 0 ≤ P * (q % 2) := Int.mul_nonneg (by omega) (by omega)
        omega
      · have hb : q % 2 = 0 ∨ q % 2 = 1 := by omega
        rcases hb with hb | hb
        · rw [hb]; omega
        · rw [hb]; omega
    rw [hm, Int.add_mul, Int.mul_comm (q % 2) P, Int.mul_comm 2 a, Int.mul_assoc, Int.mul_comm 2 P]
    omega
theorem p256_two (n : Nat) : p256 n = 2 ^ (8 * n) := by
  rw [Int.pow_mul]; rfl
/-- The byte behind m others. -/
theorem oct_piece (v : Int) (m : Nat) : octN ((bitL v (8 * (m + 1))).take 8) 0 = v / p256 m % 256 := by
  have h := octN_bitL v (8 * m) 8 0
  rw [show 8 + 8 * m = 8 * (m + 1) by omega] at h
  rw [h, p256_two]
  simp
theorem be_more (v : Int) (k m : Nat) : be (k + 1) (v / p256 m) = be k (v / p256 (m + 1)) ++ [v / p256 m % 256] := by
  simp only [be]
  rw [p256_succ, Int.ediv_ediv_of_nonneg (Int.le_of_lt (p256_pos m))]
theorem octN_take (xs : List Int) (a : Int) (k : Nat) (h : k < xs.length) : octN (xs.take (k + 1)) a = 2 * octN (xs.take k) a + xs[k] := by
  unfold octN
  rw [List.take_succ_eq_append_getElem h, List.foldl_append]
  rfl
theorem octN_bd (xs : List Int) (h : ∀ x ∈ xs, 0 ≤ x ∧ x ≤ 1) : ∀ k, k ≤ xs.length → 0 ≤ octN (xs.take k) 0 ∧ octN (xs.take k) 0 < 2 ^ k
  | 0, _ => by simp [octN]
  | k + 1, hk => by
    rw [octN_take xs 0 k (by omega), Int.pow_succ]
    have := octN_bd xs h k (by omega)
    have := h xs[k] (List.getElem_mem _)
    omega
theorem bitL_01 (v : Int) : ∀ n, ∀ x ∈ bitL v n, 0 ≤ x ∧ x ≤ 1
  | 0, x, hx => by simp [bitL] at hx
  | n + 1, x, hx => by
    simp only [bitL, List.mem_cons] at hx
    rcases hx with rfl | hx
    · omega
    · exact bitL_01 v n x hx
end Go.Proofs.Ytdnbbjhickjnmaa.Wr
