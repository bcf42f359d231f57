/- The reference's reader: number. -/
import Derived.Test.YtdnbbjhickjnmaaY2
namespace Go.Proofs.Ytdnbbjhickjnmaa.Wr
open Go.RowKit
set_option maxRecDepth 20000
set_option linter.unusedVariables false
set_option maxRecDepth 20000
set_option linter.unusedSimpArgs false

theorem bits_one (x : Int) (h0 : 0 ≤ x) (h1 : x < 256) : bits .and .i64 x 1 = x % 2 := by
  obtain ⟨k, rfl⟩ := Int.eq_ofNat_of_zero_le h0
  have hk : k < 256 := by omega
  have : ∀ k : Fin 256, bits .and .i64 (k.val : Int) 1 = (k.val : Int) % 2 := by decide +kernel
  exact this ⟨k, hk⟩
/-- What number has behind 8 - u bits of a byte. -/
def cur (a c : Int) (u : Nat) : Int := a * 2 ^ (8 - u) + c / 2 ^ u
theorem cur_step (a c : Int) (u : Nat) (h1 : u < 8) : 2 * cur a c (u + 1) + (c / 2 ^ u) % 2 = cur a c u := by
  unfold cur
  have e1 : 8 - u = (8 - (u + 1)) + 1 := by omega
  have e2 : c / 2 ^ (u + 1) = c / 2 ^ u / 2 := by rw [Int.pow_succ, Int.ediv_ediv_of_nonneg (Int.le_of_lt (Int.pow_pos (by omega)))]
  rw [e1, e2, Int.pow_succ (2 : Int) (8 - (u + 1)), ← Int.mul_assoc]
  generalize a * 2 ^ (8 - (u + 1)) = X
  generalize c / 2 ^ u = Y
  omega
theorem cur_end (a c : Int) : cur a c 0 = a * 256 + c := by simp [cur]
theorem cur_start (a c : Int) (h0 : 0 ≤ c) (h1 : c < 256) : cur a c 8 = a := by
  unfold cur
  have : c / 2 ^ 8 = 0 := by omega
  rw [this]
  simp
theorem cur_nonneg (a c : Int) (u : Nat) (ha : 0 ≤ a) (hc : 0 ≤ c) : 0 ≤ cur a c u := by
  unfold cur
  have h1 : (0 : Int) ≤ a * 2 ^ (8 - u) := Int.mul_nonneg ha (Int.le_of_lt (Int.pow_pos (by omega)))
  have h2 : (0 : Int) ≤ c / 2 ^ u := Int.ediv_nonneg hc (Int.le_of_lt (Int.pow_pos (by omega)))
  omega
theorem cur_le (a c : Int) (ha : 0 ≤ a) (hc : 0 ≤ c) : ∀ (u : Nat), u ≤ 8 → 2 ^ u * cur a c u ≤ a * 256 + c
  | 0, _ => by simp [cur]
  | u + 1, h => by
    have h1 := cur_le a c ha hc u (by omega)
    have h2 := cur_step a c u (by omega)
    have h3 : 0 ≤ (c / 2 ^ u) % 2 := Int.emod_nonneg _ (by omega)
    have h4 : 2 * cur a c (u + 1) ≤ cur a c u := by omega
    have h5 : (0 : Int) ≤ 2 ^ u := Int.le_of_lt (Int.pow_pos (by omega))
    have h6 : 2 ^ u * (2 * cur a c (u + 1)) ≤ 2 ^ u * cur a c u := Int.mul_le_mul_of_nonneg_left h4 h5
    rw [Int.pow_succ, Int.mul_assoc]
    omega
theorem cur_big (a c : Int) (ha : 0 ≤ a) (hc : 0 ≤ c) (u : Nat) (h1 : 1 ≤ u) (h8 : u ≤ 8) (hb : 4611686018427387904 ≤ cur a c u) : 9223372036854775808 ≤ a * 256 + c := by
  have h := cur_le a c ha hc u h8
  have h2 : (2 : Int) ≤ 2 ^ u := by
    obtain ⟨v, rfl⟩ : ∃ v, u = v + 1 := ⟨u - 1, by omega⟩
    have : (0 : Int) < 2 ^ v := Int.pow_pos (by omega)
    rw [Int.pow_succ]
    omega
  have h3 : 2 * cur a c u ≤ 2 ^ u * cur a c u := Int.mul_le_mul_of_nonneg_right h2 (by omega)
  omega
theorem num_grow {xs ys : List Int} (hx : Byt xs) (h : Byt ys) : num xs ≤ num (xs ++ ys) := by
  rcases List.eq_nil_or_concat ys with rfl | ⟨zs, c, rfl⟩
  · simp
  · have h1 := num_grow (ys := zs) hx (fun x hx => h x (by simp [hx]))
    have hc := h c (by simp)
    have h0 := num_nonneg hx
    rw [List.concat_eq_append, ← List.append_assoc, num_append]
    omega
  termination_by ys.length
  decreasing_by simp_all
def unumV (zs : List Int) : Int := if num zs < 9223372036854775808 then num zs else 0
def unumB (zs : List Int) : Bool := decide (num zs < 9223372036854775808)
theorem unum_small {zs : List Int} (h : num zs < 9223372036854775808) : unumV zs = num zs ∧ unumB zs = true := by simp [unumV, unumB, h]
theorem unum_big {zs : List Int} (h : 9223372036854775808 ≤ num zs) : unumV zs = 0 ∧ unumB zs = false := by
  have : ¬ num zs < 9223372036854775808 := by omega
  simp [unumV, unumB, this]

set_option maxHeartbeats 2000000 in
theorem unum_any (S : Nat → Prop) (A : Option Addr) (c : Nat) (zs : List Int) (w : World) (hr : Rd w S 1 (.slice A zs.length c) zs.length (bts zs)) (hb : Byt zs) :
    Calls Try.prog 87 #[.slice A zs.length c] w fun e w' => e = .returned (.tuple #[.int .i64 (unumV zs), .bool (unumB zs)]) ∧ ∃ n, w' = w.drewN n := by
  have hcap := hr.cap.2
  unfold maxLen at hcap
  obtain ⟨hc1, hc2⟩ := hcap
  have HR := Lib.hid hr
  have HB := Lib.hid hb
  clear hr hb
  go_enter Try.func87, Try.ntmps87
  go_wp2_with fail
  go_loopw [4, 5] (fun n i wr => ∃ k : Nat, k ≤ zs.length ∧ i = .int .i64 k ∧ n = .int .i64 (num (zs.take k)) ∧ num (zs.take k) < 9223372036854775808 ∧ (∃ n, wr = w.drewN n)) (fun _ i _ => zs.length - (intOf i).toNat)
  case atStart => exact ⟨0, by omega, rfl, rfl, by simp [num], 0, rfl⟩
  case round =>
    obtain ⟨k, hk, rfl, rfl, hlt63, hw⟩ := hrel
    obtain ⟨wv, rfl⟩ : ∃ wv, wv = wr := ⟨_, rfl⟩
    have HW := Lib.hid hw
    clear hw
    by_cases hlt : k < zs.length
    · have hlt' : (k : Int) < (zs.length : Int) := by omega
      have hk0 : (0 : Int) ≤ (k : Int) := by omega
      obtain ⟨g, o, hA, hg, hc⟩ := HR.out.some_ (by omega)
      subst hA
      obtain ⟨x, hx⟩ : ∃ x, x = zs[k] := ⟨_, rfl⟩
      have d0 : w.cell? ⟨g, o + k, none⟩ = some (.int .u8 x) := hc k _ (by rw [bts_getElem? zs k hlt, hx])
      have hx01 := HB.out x (by rw [hx]; exact List.getElem_mem hlt)
      obtain ⟨x0, x1⟩ := hx01
      have hn0 := num_nonneg (HB.out.take k)
      have hstep : num (zs.take (k + 1)) = num (zs.take k) * 256 + x := by rw [List.take_succ_eq_append_getElem hlt, num_append, hx]
      have hgrow : num (zs.take (k + 1)) ≤ num zs := by
        have := num_grow (HB.out.take (k + 1)) (HB.out.drop (k + 1))
        rwa [List.take_append_drop] at this
      obtain ⟨a, ha⟩ : ∃ a, a = num (zs.take k) := ⟨_, rfl⟩
      rw [← ha] at hn0 hlt63 hstep ⊢
      have HST := Lib.hid (And.intro hstep hgrow)
      clear hstep hgrow hc hx ha
      go_wp2_with fail
      go_loopw [4, 6] (fun n i wr => ∃ u : Nat, u ≤ 8 ∧ i = .int .i64 ((u : Int) - 1) ∧ n = .int .i64 (cur a x u) ∧ cur a x u < 9223372036854775808 ∧ (∃ n, wr = w.drewN n)) (fun _ i _ => (intOf i + 1).toNat)
      case atStart => exact ⟨8, by omega, rfl, by rw [cur_start a x x0 x1], by rw [cur_start a x x0 x1]; exact hlt63, HW.out⟩
      case round =>
        obtain ⟨u, hu, rfl, rfl, hc63, hw⟩ := hrel
        obtain ⟨wz, rfl⟩ : ∃ wz, wz = wr := ⟨_, rfl⟩
        have HWZ := Lib.hid hw
        have hcz : wz.cell? ⟨g, o + k, none⟩ = some (.int .u8 x) := by obtain ⟨n, rfl⟩ := hw; exact d0
        clear hw
        have hc0 := cur_nonneg a x u hn0 x0
        by_cases hu0 : u = 0
        · subst hu0
          have hz : ¬ (0 : Int) ≤ ((0 : Nat) : Int) - 1 := by omega
          go_wp2_with fail
          go_roundw
          case rel => exact ⟨k + 1, by omega, by go_num, by rw [HST.out.1, ← cur_end], by rw [HST.out.1, ← cur_end]; exact hc63, HWZ.out⟩
          case measure => simp [intOf]; omega
        · obtain ⟨v, rfl⟩ : ∃ v, u = v + 1 := ⟨u - 1, by omega⟩
          have e1 : ((v + 1 : Nat) : Int) - 1 = (v : Int) := by omega
          rw [e1]
          have hv0 : (0 : Int) ≤ (v : Int) := by omega
          have hv7 : (v : Int) ≤ 7 := by omega
          have hnext := cur_step a x v (by omega)
          have hb1 : 0 ≤ x / 2 ^ v ∧ x / 2 ^ v < 256 := by
            refine ⟨Int.ediv_nonneg x0 (Int.le_of_lt (Int.pow_pos (by omega))), ?_⟩
            have := Int.ediv_le_self (2 ^ v) x0
            omega
          have hbit := bits_one (x / 2 ^ v) hb1.1 hb1.2
          have hmod := Int.emod_nonneg (x / 2 ^ v) (show (2 : Int) ≠ 0 by omega)
          have hmod2 := Int.emod_lt_of_pos (x / 2 ^ v) (show (0 : Int) < 2 by omega)
          obtain ⟨y, hy⟩ : ∃ y, y = x / 2 ^ v := ⟨_, rfl⟩
          have hbig := cur_big a x hn0 x0 (v + 1) (by omega) (by omega)
          obtain ⟨z, hz⟩ : ∃ z, z = cur a x (v + 1) := ⟨_, rfl⟩
          rw [← hz] at hc0 hc63 hbig hnext ⊢
          rw [← hy] at hnext hbit hmod hmod2 hb1
          obtain ⟨q, hq⟩ : ∃ q, q = y % 2 := ⟨_, rfl⟩
          rw [← hq] at hnext hbit hmod hmod2
          have HN := Lib.hid hnext
          have HBT := Lib.hid (And.intro hbit (And.intro hy hz))
          clear hnext hbit hy hz hq
          by_cases hbg : 4611686018427387904 ≤ z
          · have hnum : 9223372036854775808 ≤ num zs := by have := hbig hbg; have := HST.out; omega
            have HU := Lib.hid (unum_big hnum)
            clear hbig hnum
            go_wp2_with fail
            go_ret2
            exact ⟨by rw [HU.out.1, HU.out.2]; rfl, HWZ.out⟩
          · clear hbig
            have hzlt : z < 4611686018427387904 := by omega
            go_wp2_with fail
            go_roundw
            case rel =>
              have hcv : cur a x v = 2 * z + q := HN.out.symm
              refine ⟨v, by omega, rfl, ?_, by rw [hcv]; omega, HWZ.out⟩
              rw [← HBT.out.2.1, HBT.out.1, ← hcv, IntWalk.wrap64_in _ ⟨by rw [hcv]; omega, by rw [hcv]; omega⟩]
            case measure => simp [intOf]
    · obtain rfl : k = zs.length := by omega
      have HU := Lib.hid (unum_small (zs := zs) (by rwa [List.take_length] at hlt63))
      rw [List.take_length]
      clear hlt63
      go_wp2_with fail
      go_ret2
      exact ⟨by rw [HU.out.1, HU.out.2]; rfl, HW.out⟩
end Go.Proofs.Ytdnbbjhickjnmaa.Wr
