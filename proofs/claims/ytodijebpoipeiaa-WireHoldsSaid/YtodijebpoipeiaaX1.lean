/- The statement WireHolds: its walk. -/
import Derived.Test.YtodijebpoipeiaaW12
import Derived.Deep.Cut
import Derived.Deep.DeepCutAuto
namespace Go.Proofs.Ytodijebpoipeiaa
open Go.RowKit
set_option linter.unusedVariables false
set_option linter.unusedSimpArgs false

theorem num_cons (x : Int) (ys : List Int) : num (x :: ys) = x * p256 ys.length + num ys := by
  rcases List.eq_nil_or_concat ys with rfl | ⟨zs, c, rfl⟩
  · simp [num, p256]
  · have := num_cons x zs
    rw [List.concat_eq_append, ← List.cons_append, num_append, num_append, this, List.length_append, List.length_singleton, p256_succ, Int.add_mul, Int.mul_assoc]
    omega
  termination_by ys.length
  decreasing_by simp_all

theorem p256_7 : p256 7 = 72057594037927936 := by decide
theorem getE_high (x : Int) (zs : List Int) (hb : Byt (x :: zs)) (hl : (x :: zs).length = 8) (hx : 127 < x) : getE (x :: zs) ((x :: zs).length : Int) = 9 := by
  have h1 := num_nonneg (xs := zs) (fun y hy => hb y (List.mem_cons_of_mem _ hy))
  have h2 := num_cons x zs
  have h3 : zs.length = 7 := by simpa using hl
  rw [h3, p256_7] at h2
  have h4 : ¬ (((x :: zs).length : Int) < 1 ∨ 8 < ((x :: zs).length : Int)) := by omega
  have h5 : (x :: zs).take ((x :: zs).length : Int).toNat = x :: zs := by rw [Int.toNat_natCast, List.take_length]
  unfold getE
  rw [if_neg h4, if_neg (by omega), h5, if_pos (by omega)]
theorem num_low (x : Int) (zs : List Int) (hb : Byt (x :: zs)) (hl : (x :: zs).length ≤ 8) (hx : (x :: zs).length < 8 ∨ x ≤ 127) : num (x :: zs) < 9223372036854775808 := by
  have hbz : Byt zs := fun y hy => hb y (List.mem_cons_of_mem _ hy)
  have hlz : (x :: zs).length = zs.length + 1 := rfl
  rcases Nat.lt_or_ge (x :: zs).length 8 with h | h
  · have h1 := num_lt hb
    obtain ⟨k, hk⟩ : ∃ k, k + (x :: zs).length = 7 := ⟨7 - (x :: zs).length, by omega⟩
    have h2 := p256_add k (x :: zs).length
    rw [hk, p256_7] at h2
    have h3 := p256_pos k
    have h4 : 1 * p256 (x :: zs).length ≤ p256 k * p256 (x :: zs).length := Int.mul_le_mul_of_nonneg_right (by omega) (by have := p256_pos (x :: zs).length; omega)
    omega
  · have h1 := num_lt hbz
    have h2 := num_cons x zs
    have h3 : zs.length = 7 := by omega
    rw [h3, p256_7] at h1 h2
    omega
theorem getE_low (ys : List Int) (hl : ys.length ≤ 8) (h0 : 0 < ys.length) (hv : num ys < 9223372036854775808) : getE ys (ys.length : Int) = 0 ∧ getV ys (ys.length : Int) = num ys ∧ getL ys (ys.length : Int) = [] := by
  have h5 : ys.take (ys.length : Int).toNat = ys := by rw [Int.toNat_natCast, List.take_length]
  have h6 : ys.drop (ys.length : Int).toNat = [] := by rw [Int.toNat_natCast, List.drop_length]
  have he : getE ys (ys.length : Int) = 0 := by
    unfold getE
    rw [if_neg (by omega), if_neg (by omega), h5, if_neg (by omega)]
  exact ⟨he, by rw [getV, if_pos he, h5], by rw [getL, if_pos he, h6]⟩
theorem putL_num (ys : List Int) (hb : Byt ys) (hl : ys.length ≤ 8) (h0 : 0 < ys.length) : putL [] (num ys) (ys.length : Int) = ys := by
  have he : putE (num ys) (ys.length : Int) = 0 := by
    have h1 := num_nonneg hb
    have h2 := num_lt hb
    unfold putE
    rw [if_neg (by omega), if_neg (by rw [Int.toNat_natCast]; omega)]
  rw [putL, if_pos he, Int.toNat_natCast, be_num hb, List.nil_append]
theorem putL_other (ys : List Int) (hb : Byt ys) (hl : ys.length ≤ 8) (h0 : 0 < ys.length) (v : Int) : eqB (putL [] v (ys.length : Int)) ys = decide (v = num ys) := by
  rw [eqB, decide_eq_decide]
  constructor
  · intro h
    unfold putL at h
    split at h
    · rename_i he
      have h1 : ¬ (v < 0 ∨ p256 ys.length ≤ v) := by
        intro hc
        unfold putE at he
        rw [if_neg (by omega), if_pos (by rw [Int.toNat_natCast]; exact hc)] at he
        omega
      rw [Int.toNat_natCast, List.nil_append] at h
      have h2 := num_be ys.length v
      rw [h, Int.emod_eq_of_lt (by omega) (by omega)] at h2
      exact h2.symm
    · rw [← h] at h0; simp at h0
  · rintro rfl
    exact putL_num ys hb hl h0

set_option maxHeartbeats 1000000 in
theorem holds_walk1 (W : World) (A : Option Addr) (c : Nat) (xs : List Int) (other : Int) (w1 : (Lit.int .i64 other).wf = true) (hb : Byt xs) (hl : xs.length ≤ 140737488351232) (hr : Rd W (fun i => i < W.heap.size) 1 (.slice A xs.length c) xs.length (bts xs)) :
    Calls Try.prog 6 #[.slice A xs.length c, .int .i64 other] W fun e w' => e = .returned (.bool true) ∧ Below W.heap.size W w' := by
  have hw1 : other < 9223372036854775808 := (i64_wf w1).2
  have hcap := hr.cap
  unfold maxLen at hcap
  have HR := Lib.hid hr
  clear hr w1
  go_enter Try.func6, Try.ntmps6
  go_upto_region 3 with (go_at_call 25; refine (works_any W).mono ?_; rintro e w1 ⟨rfl, hb1⟩)
  go_cut [0] (fun v wr => v = .slice A (xs.take 8).length c ∧ w1 = wr)
  case first =>
    go_wp2_with fail
    all_goals
      go_meet
      exact ⟨congrArg (fun n => Value.slice A n c) (by simp; omega), rfl⟩
  case rest =>
    obtain ⟨rfl, rfl⟩ := hcut
    have hys : (xs.take 8).length ≤ 8 := by simp; omega
    have hbys : Byt (xs.take 8) := hb.take 8
    have hrys : Rd w1 (fun i => i < W.heap.size) 1 (.slice A (xs.take 8).length c) (xs.take 8).length (bts (xs.take 8)) := rd_head _ (xs.drop 8) (by rw [List.take_append_drop]; exact HR.out.below hb1 (fun _ h => h))
    clear HR hb hl hcap
    generalize xs.take 8 = ys at hys hbys hrys ⊢
    clear xs
    have HY := Lib.hid (And.intro hbys hrys)
    have lw1 := hb1.size
    clear hbys hrys
    go_wp2_with fail
    refine (rnew_any _ A c ys _ HY.out.2 (fun i hi => Nat.lt_of_lt_of_le hi lw1) (by omega)).mono ?_
    rintro e w2 ⟨r, S, rfl, HR2, hb2, hS1⟩
    have hSl := fun i hi => Nat.le_trans lw1 (hS1 i hi)
    have HB2 := Lib.hid (Bt hb1 hb2)
    have HRY := Lib.hid (HY.out.2.below hb2 (fun i hi => Nat.lt_of_lt_of_le hi lw1))
    clear hS1
    go_wp2_with fail
    refine (get_any S r ys ys.length _ HR2 HY.out.1).mono ?_
    rintro e w3 ⟨rfl, hm3, HR3⟩
    have HB3 := Lib.hid (Bm HB2.out hm3 hSl)
    have HRY3 := Lib.hid (HRY.out.kept hm3 (fun i hi hs => by have := hSl i hs; omega))
    have lw3 := HB3.out.size
    replace HR3 := Lib.hid HR3
    clear HR2 hm3 hSl HRY HB2 hb1 hb2
    rcases Nat.eq_zero_or_pos ys.length with h0 | h0
    · obtain rfl : ys = [] := List.eq_nil_of_length_eq_zero h0
      clear h0
      rw [show getE [] (([] : List Int).length : Int) = 2 by decide +kernel]
      go_wp2_with fail
      go_ret
      exact ⟨rfl, HB3.out⟩
    · have hne : ((ys.length : Int) == 0) = false := by rw [beq_eq_false_iff_ne]; omega
      obtain ⟨g, o, rfl, _, hcells⟩ := HRY3.out.some_ h0
      obtain ⟨x, zs, hxz⟩ : ∃ x zs, ys = x :: zs := by cases ys with | nil => simp at h0 | cons x zs => exact ⟨x, zs, rfl⟩
      have e1 : w3.cell? ⟨g, o, none⟩ = some (.int .u8 x) := hcells 0 _ (by simp [bts, hxz])
      have HX := Lib.hid hxz
      clear hcells hxz
      by_cases hhi : ys.length = 8 ∧ 127 < x
      · obtain ⟨h8, hx⟩ := hhi
        have h8b : ((ys.length : Int) == 8) = true := by rw [beq_iff_eq]; omega
        have hE : getE ys (ys.length : Int) = 9 := by
          have hb := HY.out.1
          rw [HX.out] at hb h8 ⊢
          exact getE_high x zs hb h8 hx
        have hV : getV ys (ys.length : Int) = 0 := by rw [getV, hE]; rfl
        have hL : getL ys (ys.length : Int) = ys := by rw [getL, hE]; rfl
        rw [hE, hV]
        rw [hL] at HR3
        clear hE hV hL h8
        go_wp2_with fail
        refine (left_any S r _ _ HR3.out).mono ?_
        rintro e w4 ⟨rfl, n4, rfl⟩
        go_wp2_with fail
        go_ret
        exact ⟨rfl, BdN HB3.out n4⟩
      · have hv : num ys < 9223372036854775808 := by
          have hb := HY.out.1
          rw [HX.out] at hb hhi hys ⊢
          exact num_low x zs hb hys (by omega)
        obtain ⟨hE, hV, hL⟩ := getE_low ys hys h0 hv
        have hP := putL_num ys HY.out.1 hys h0
        have hO := putL_other ys HY.out.1 hys h0 other
        have hv0 := num_nonneg HY.out.1
        rw [hE, hV]
        rw [hL] at HR3
        generalize num ys = V at hv hP hO hv0 ⊢
        have HP := Lib.hid hP
        have HO := Lib.hid hO
        clear hE hV hL hP hO
        have hcase : ((ys.length : Int) == 8) = false ∨ (((ys.length : Int) == 8) = true ∧ x ≤ 127) := by
          by_cases h : ys.length = 8
          · exact .inr ⟨by rw [beq_iff_eq]; omega, by omega⟩
          · exact .inl (by rw [beq_eq_false_iff_ne]; omega)
        clear hhi
        rcases hcase with h8 | ⟨h8, hx⟩
        all_goals
          go_wp2_with fail
          refine (end_any S r _ _ HR3.out).mono ?_
          rintro e w4 ⟨rfl, n4, hw4⟩
          have hb4 : Below w3.heap.size w3 w4 := by rw [hw4]; exact BdN (B0 _) n4
          have HB4 := Lib.hid (Bt HB3.out hb4)
          have HRY4 := Lib.hid (HRY3.out.below hb4 (fun i hi => Nat.lt_of_lt_of_le hi lw3))
          rw [endE_1]
          clear hw4 hb4
          go_wp2_with fail
          refine (sput_any V ys.length hv _).mono ?_
          rintro e w5 ⟨A5, c5, rfl, HF5⟩
          rw [HP.out] at HF5 ⊢
          have hb5 := HF5.kept
          have HRY5 := Lib.hid (HRY4.out.below hb5 (fun i hi => Nat.lt_of_lt_of_le hi HB4.out.size))
          have HB5 := Lib.hid (Bt HB4.out hb5)
          replace HF5 := Lib.hid HF5
          clear hb5
          go_wp2_with fail
          refine (eq_bytes _ _ _ _ ys ys _ HF5.out.rd HRY5.out).mono ?_
          rintro e w6 ⟨rfl, n6, hw6⟩
          rw [eqB_self]
          have hb6 : Below w5.heap.size w5 w6 := by rw [hw6]; exact BdN (B0 _) n6
          have HB6 := Lib.hid (Bt HB5.out hb6)
          have HRY6 := Lib.hid (HRY5.out.below hb6 (fun i hi => Nat.lt_of_lt_of_le hi HB5.out.size))
          clear hw6 hb6
          go_wp2_with fail
          refine (sput_any other ys.length hw1 _).mono ?_
          rintro e w7 ⟨A7, c7, rfl, HF7⟩
          have hb7 := HF7.kept
          have HRY7 := Lib.hid (HRY6.out.below hb7 (fun i hi => Nat.lt_of_lt_of_le hi HB6.out.size))
          have HB7 := Lib.hid (Bt HB6.out hb7)
          replace HF7 := Lib.hid HF7
          clear hb7
          go_wp2_with fail
          refine (eq_bytes _ _ _ _ (putL [] other ys.length) ys _ HF7.out.rd HRY7.out).mono ?_
          rintro e w8 ⟨rfl, n8, rfl⟩
          rw [HO.out]
          go_wp2_with fail
          go_ret
          exact ⟨ret_bool (by by_cases h : other = V <;> simp [h]), BdN HB7.out n8⟩

theorem wireHolds_walk {H : Type} {enc : TypeId × Value → H} (W : World) {base : Nat} {sp : Nat → Bool} {held : Bool} {v : Value} {d : DataW H} {p : List MemPlace} (hv : Value.okWide Try.prog W .any base 27 v) (ht : DataW.Trod enc Try.prog W 0 sp held 27 v d p) (hz : ∀ n ∈ d.weights Try.prog 27, n ≤ reachBytes)
    (other : Int) (w1 : (Lit.int .i64 other).wf = true) : Calls Try.prog 6 #[v, .int .i64 other] W fun e w' => e = .returned (.bool true) ∧ Below W.heap.size W w' := by
  obtain ⟨A, c, xs, rfl, hb, hl, hr⟩ := open_bytes hv ht hz
  exact holds_walk1 W A c xs other w1 hb hl hr
end Go.Proofs.Ytodijebpoipeiaa
