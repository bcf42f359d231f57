/- The reference's writer: bits, octet. -/
import Derived.Test.YtdnbbjhickjnmaaU1
namespace Go.Proofs.Ytdnbbjhickjnmaa.Wr
open Go.RowKit
set_option maxRecDepth 20000
set_option linter.unusedVariables false
set_option maxRecDepth 20000
set_option linter.unusedSimpArgs false

theorem ubits_any (v : Int) (h0 : -9223372036854775808 ≤ v) (h1 : v < 9223372036854775808) (w : World) :
    Calls Try.prog 78 #[.int .i64 v, .int .i64 8] w fun e w' => e = .returned (.slice (some ⟨w.heap.size, 0, none⟩) 64 64) ∧ Below w.heap.size w w' ∧ Blk w' w.heap.size 3 (ints (bitL v 64)).toArray := by
  have hmk0 : ∀ u : World, (Instr.makeSlice 41 (.int .i64 64) (.int .i64 64)).run Try.prog u = .ok (.slice (some ⟨u.heap.size, 0, none⟩) 64 64) (u.alloc (.cells (ints (List.replicate 64 0)).toArray 3)) := fun _ => by kernel_rfl
  have hmk : ∀ u : World, (Instr.makeSlice 41 (.int .i64 64) (.int .i64 64)).run Try.prog u = .ok (.slice (some ⟨u.heap.size, 0, none⟩) 64 64) (u.alloc (.cells (ints (zb v 0)).toArray 3)) := fun u => by
    have e : zb v 0 = List.replicate 64 0 := by simp [zb, bitL]
    rw [e]
    exact hmk0 u
  clear hmk0
  go_enter Try.func78, Try.ntmps78
  go_wp2_with fail
  go_loopw [0, 6] (fun x i wr => ∃ k : Nat, k ≤ 64 ∧ x = .int .i64 (v / 2 ^ k) ∧ i = .int .i64 k ∧ Below w.heap.size w wr ∧ Blk wr w.heap.size 3 (ints (zb v k)).toArray) (fun _ i _ => 64 - (intOf i).toNat)
  case atStart => exact ⟨0, by omega, by simp, rfl, Ba (B0 w) _, Blk.new w 3 _⟩
  case round =>
    obtain ⟨k, hk, rfl, rfl, hb, hB⟩ := hrel
    have HB := Lib.hid hb
    have HBB := Lib.hid hB
    have lB := hB.lt
    clear hb
    by_cases hlt : k < 64
    · obtain ⟨j, hj⟩ : ∃ j, k + j = 63 := ⟨63 - k, by omega⟩
      have c0 : wr.cell? ⟨w.heap.size, j, none⟩ = some (.int .i64 0) := by rw [hB.cell]; simp [ints_getElem?, zb_at v k j hj]
      have f0 := hB.frozen j
      have hlt' : (k : Int) < 64 := by omega
      have hkj : (63 : Int) - (k : Int) = (j : Int) := by omega
      have hj64 : (j : Int) < 64 := by omega
      have HST := Lib.hid (zb_step v k j hj)
      have hyb : -9223372036854775808 ≤ v / 2 ^ k ∧ v / 2 ^ k < 9223372036854775808 := by
        have hp := pow2_pos k
        constructor
        · refine Int.le_ediv_of_mul_le hp ?_
          have : (-9223372036854775808 : Int) * 2 ^ k ≤ -9223372036854775808 * 1 := Int.mul_le_mul_of_nonpos_left (by omega) (by omega)
          omega
        · refine Int.ediv_lt_of_lt_mul hp ?_
          have : (9223372036854775808 : Int) * 1 ≤ 9223372036854775808 * 2 ^ k := Int.mul_le_mul_of_nonneg_left (by omega) (by omega)
          omega
      have hnext : v / 2 ^ (k + 1) = v / 2 ^ k / 2 := by rw [Int.pow_succ, Int.ediv_ediv_of_nonneg (Int.le_of_lt (pow2_pos k))]
      obtain ⟨y, hy⟩ : ∃ y, y = v / 2 ^ k := ⟨_, rfl⟩
      rw [← hy] at hyb hnext HST ⊢
      obtain ⟨hy0, hy1⟩ := hyb
      have hand := i64_and1 y
      obtain ⟨q, hq⟩ : ∃ q, q = y % 2 := ⟨_, rfl⟩
      rw [← hq] at hand HST
      have HN := Lib.hid hnext
      clear hB hq hy hnext
      go_wp2_with fail
      go_roundw
      case rel => exact ⟨k + 1, by omega, by rw [HN.out], by go_num, Bs HB.out (by simp) _, by rw [← HST.out]; simpa [ints] using HBB.out.set_ j (.int .i64 q)⟩
      case measure => simp [intOf]; omega
    · obtain rfl : k = 64 := by omega
      clear hB
      go_wp2_with fail
      go_ret
      exact ⟨rfl, HB.out, by rw [← zb_all]; exact HBB.out⟩

theorem uoctet_any (S : Nat → Prop) (A : Option Addr) (c : Nat) (xs : List Int) (hl : xs.length = 8) (hx : ∀ x ∈ xs, 0 ≤ x ∧ x ≤ 1) (w : World) (hr : Rd w S 1 (.slice A 8 c) 8 (ints xs)) :
    Calls Try.prog 79 #[.slice A 8 c] w fun e w' => e = .returned (.int .u8 (octN xs 0)) ∧ ∃ n, w' = w.drewN n := by
  obtain ⟨g, o, rfl, hg, hc⟩ := hr.some_ (by omega)
  have HC := Lib.hid hc
  have HX := Lib.hid (And.intro hl hx)
  clear hc hr hl hx
  go_enter Try.func79, Try.ntmps79
  go_wp2_with fail
  go_loopw [3, 4] (fun n i wr => ∃ k : Nat, k ≤ 8 ∧ n = .int .i64 (octN (xs.take k) 0) ∧ i = .int .i64 k ∧ (∃ n, wr = w.drewN n)) (fun _ i _ => 8 - (intOf i).toNat)
  case atStart => exact ⟨0, by omega, by simp [octN], rfl, 0, rfl⟩
  case round =>
    obtain ⟨k, hk, rfl, rfl, nd, rfl⟩ := hrel
    obtain ⟨b0, b1⟩ := octN_bd xs HX.out.2 k (by have := HX.out.1; omega)
    have b2 : (2 : Int) ^ k ≤ 256 := by
      have : ∀ k : Fin 9, (2 : Int) ^ k.val ≤ 256 := by decide +kernel
      exact this ⟨k, by omega⟩
    by_cases hlt : k < 8
    · have hk8 : k < xs.length := by have := HX.out.1; omega
      have e0 : w.cell? ⟨g, o + k, none⟩ = some (.int .i64 xs[k]) := HC.out k _ (by rw [ints_getElem?, List.getElem?_eq_getElem hk8]; rfl)
      have hlt' : (k : Int) < 8 := by omega
      have hst := octN_take xs 0 k hk8
      have hx01 := HX.out.2 xs[k] (List.getElem_mem _)
      obtain ⟨y, hy⟩ : ∃ y, y = xs[k] := ⟨_, rfl⟩
      obtain ⟨a, ha⟩ : ∃ a, a = octN (xs.take k) 0 := ⟨_, rfl⟩
      rw [← hy] at e0 hst hx01
      rw [← ha] at b0 b1 hst ⊢
      obtain ⟨y0, y1⟩ := hx01
      have ha2 : a < 256 := by omega
      have HST := Lib.hid hst
      clear hy ha hst b1 b2
      go_wp2_with fail
      go_roundw
      case rel => exact ⟨k + 1, by omega, by rw [HST.out], by go_num, nd, rfl⟩
      case measure => simp [intOf]; omega
    · obtain rfl : k = 8 := by omega
      have ht : xs.take 8 = xs := List.take_of_length_le (by have := HX.out.1; omega)
      rw [ht] at b0 b1 ⊢
      obtain ⟨a, ha⟩ : ∃ a, a = octN xs 0 := ⟨_, rfl⟩
      rw [← ha] at b0 b1 ⊢
      have b3 : a < 256 := by omega
      have HAE := Lib.hid ha
      clear ha ht b1 b2
      go_wp2_with fail
      go_ret
      exact ⟨ret_int (by have := HAE.out; omega), nd, rfl⟩
end Go.Proofs.Ytdnbbjhickjnmaa.Wr
