/- The statement RelayMean: its walk. -/
import Derived.Test.YtdnbbjhickjnmaaF2
import Derived.Test.YtdnbbjhickjnmaaG1
namespace Go.Proofs.Ytdnbbjhickjnmaa
open Go.RowKit
set_option maxRecDepth 20000
set_option linter.unusedVariables false
set_option linter.unusedSimpArgs false

theorem isV_up {d : Ieee.Datum} {m k : Nat} {e : Int} (h : IsV d (m * 2 ^ k) e) : IsV d m (e + k) := by
  obtain ⟨M, p, rfl, s, hs, rfl⟩ := h
  refine ⟨_, p, rfl, s + k, by omega, ?_⟩
  rw [Nat.mul_assoc, ← Nat.pow_add, Nat.add_comm]
def FV (x m : Nat) (e : Int) : Prop := IsV (Ieee.double.read x) m e
theorem of_int (a : Nat) (ha : a < 9007199254740992) : FV (floatOfInt .f64 (a : Int)) a 0 := by
  have e : floatOfInt .f64 (a : Int) = Ieee.double.write (.number false a 0) := by
    show Ieee.double.write (.number (decide ((a : Int) < 0)) (a : Int).natAbs 0) = _
    rw [decide_eq_false (by omega), Int.natAbs_natCast]
  unfold FV
  rw [e]
  exact write_isV (isV_self a 0) ha (by omega) (by omega)
theorem fv_lt {x m : Nat} {e : Int} (h : x = x) : True := trivial
theorem mul_fv {c mc : Nat} {ec : Int} (hc : FV c mc ec) {x m : Nat} {e : Int} (hx : FV x m e) (k q : Nat) (hq : mc * m = q * 2 ^ k) (hb : q < 9007199254740992) (h0 : -1000 ≤ ec + e + k) (h1 : ec + e + k ≤ 900) :
    floatBits .mul .f64 c x = some (mulF c x) ∧ FV (mulF c x) q (ec + e + k) := by
  obtain ⟨r, hr, hv⟩ := product_isV hc hx
  have e1 : floatBits .mul .f64 c x = some (Ieee.double.write r) := by
    show ((Ieee.double.read c).product (Ieee.double.read x)).map Ieee.double.write = _
    rw [hr]; rfl
  unfold mulF
  rw [e1]
  rw [hq] at hv
  exact ⟨rfl, write_isV (isV_up hv) hb h0 h1⟩
theorem add_fv {x m y n : Nat} {e : Int} (hx : FV x m e) (hy : FV y n e) (hb : m + n < 9007199254740992) (h0 : -1000 ≤ e) (h1 : e ≤ 900) : FV (addF x y) (m + n) e := by
  obtain ⟨r, hr, hv⟩ := sum_isV hx hy
  have e1 : floatBits .add .f64 x y = some (Ieee.double.write r) := by
    show ((Ieee.double.read x).sum (Ieee.double.read y)).map Ieee.double.write = _
    rw [hr]; rfl
  unfold addF
  rw [e1]
  exact write_isV hv hb h0 h1
theorem fv75 : FV 4604930618986332160 6755399441055744 (-53) := by unfold FV; rw [read_c75]; exact isV_self _ _
theorem fv25 : FV 4598175219545276416 4503599627370496 (-54) := by unfold FV; rw [read_c25]; exact isV_self _ _
theorem read_four : Ieee.double.read 4616189618054758400 = .number false 4503599627370496 (-50) := by decide +kernel
theorem fv4 : FV 4616189618054758400 4503599627370496 (-50) := by unfold FV; rw [read_four]; exact isV_self _ _
theorem mix_fv (a b x y : Nat) (ha : a < 1099511627776) (hb : b < 1099511627776) (hx : FV x a 0) (hy : FV y b 0) : FV (mixF x y) (3 * a + b) (-2) := by
  have h1 := (mul_fv fv75 hx 51 (3 * a) (by omega) (by omega) (by omega) (by omega)).2
  have h2 := (mul_fv fv25 hy 52 b (by omega) (by omega) (by omega) (by omega)).2
  exact add_fv h1 h2 (by omega) (by omega) (by omega)
theorem four_fv (x m : Nat) (hm : m < 9007199254740992) (hx : FV x m (-2)) : floatBits .mul .f64 x 4616189618054758400 = some (mulF x 4616189618054758400) ∧ FV (mulF x 4616189618054758400) m 0 :=
  mul_fv hx fv4 52 m (by omega) hm (by omega) (by omega)
theorem fv_eq {x y m : Nat} {e : Int} (hx : FV x m e) (hy : FV y m e) : FloatKind.f64.format.order x y = some .eq := order_isV hx hy
theorem int_tick (a : Nat) (ha : a < 9007199254740992) : tickB (floatOfInt .f64 (a : Int)) = true := by
  have h := of_int a ha
  unfold FV at h
  obtain ⟨M, p, hr, s, hs, hM⟩ := h
  have hp : p ≤ 0 := by omega
  unfold tickB
  have o1 : FloatKind.f64.format.order (floatOfInt .f64 (a : Int)) 0 = some (compare ((M * 2 ^ (p - min p (-1074)).toNat : Nat) : Int) 0) := by
    show (Ieee.double.read _).order (Ieee.double.read 0) = _
    rw [hr, read_zero, d_least]
    simp only [Ieee.Datum.order, signed_nat]
    simp
  have o2 : FloatKind.f64.format.order (floatOfInt .f64 (a : Int)) 9218868437227405311 = some (compare ((a * 2 ^ s : Nat) : Int) ((9007199254740991 * 2 ^ (971 - p).toNat : Nat) : Int)) := by
    show (Ieee.double.read _).order (Ieee.double.read 9218868437227405311) = _
    rw [hr, read_max]
    simp only [Ieee.Datum.order, signed_nat]
    rw [show min p 971 = p from by omega, show (p - p).toNat = 0 from by omega, hM]
    simp
  rw [o1, o2]
  have c1 : compare ((M * 2 ^ (p - min p (-1074)).toNat : Nat) : Int) 0 ≠ .lt := by
    intro h
    have := Int.compare_eq_lt.1 h
    omega
  have hle : a * 2 ^ s < 9007199254740991 * 2 ^ (971 - p).toNat := by
    obtain ⟨K, hK⟩ : ∃ K, K = (971 - p).toNat := ⟨_, rfl⟩
    rw [← hK]
    have h2 : 2 ^ (s + 1) ≤ 2 ^ K := Nat.pow_le_pow_right (by omega) (by omega)
    have h3 : a * 2 ^ s < 9007199254740991 * 2 * 2 ^ s := Nat.mul_lt_mul_of_pos_right (by omega) (Nat.two_pow_pos s)
    have h4 := Nat.mul_le_mul_left 9007199254740991 h2
    have h5 : 9007199254740991 * 2 * 2 ^ s = 9007199254740991 * 2 ^ (s + 1) := by rw [Nat.pow_succ, Nat.mul_assoc, Nat.mul_comm 2]
    omega
  have c2 : compare ((a * 2 ^ s : Nat) : Int) ((9007199254740991 * 2 ^ (971 - p).toNat : Nat) : Int) = .lt := Int.compare_eq_lt.2 (by omega)
  rw [c2]
  cases hc : compare ((M * 2 ^ (p - min p (-1074)).toNat : Nat) : Int) 0
  · exact absurd hc c1
  · rfl
  · rfl
theorem int_fits (a : Nat) : floatOfInt .f64 (a : Int) < 18446744073709551616 := by
  have h := Ieee.Format.write_lt Ieee.double (.number (decide ((a : Int) < 0)) (a : Int).natAbs 0)
  exact h

theorem best_one (l : Pth) (h : l.length = 1) : bestF l = 0 := by
  unfold bestF
  rw [h]
  unfold bestAt
  split <;> rfl

set_option maxHeartbeats 4000000 in
theorem relayMean_walk (W : World) (a0 : Int) (w0 : (Lit.int .i64 a0).wf = true) (b0 : Int) (w1 : (Lit.int .i64 b0).wf = true) :
    Calls Try.prog 8 #[.int .i64 a0, .int .i64 b0] W fun e w' => e = .returned (.bool true) ∧ Below W.heap.size W w' := by
  have hm := bringF_lt a0 1099511627776 (by omega)
  obtain ⟨a, hA⟩ : ∃ a : Nat, bringF a0 1099511627776 = a := ⟨(bringF a0 1099511627776).toNat, by omega⟩
  have hn := bringF_lt b0 1099511627776 (by omega)
  obtain ⟨b, hB⟩ : ∃ b : Nat, bringF b0 1099511627776 = b := ⟨(bringF b0 1099511627776).toNat, by omega⟩
  rw [hA] at hm
  rw [hB] at hn
  have ha1 : (a : Int) < 1099511627776 := hm.2
  have hb1 : (b : Int) < 1099511627776 := hn.2
  have ha2 : (0 : Int) ≤ (a : Int) := hm.1
  have hb2 : (0 : Int) ≤ (b : Int) := hn.1
  obtain ⟨x, hx⟩ : ∃ x, x = floatOfInt .f64 (a : Int) := ⟨_, rfl⟩
  obtain ⟨y, hy⟩ : ∃ y, y = floatOfInt .f64 (b : Int) := ⟨_, rfl⟩
  have vx : FV x a 0 := hx ▸ of_int a (by omega)
  have vy : FV y b 0 := hy ▸ of_int b (by omega)
  have tx : tickB x = true := hx ▸ int_tick a (by omega)
  have ty : tickB y = true := hy ▸ int_tick b (by omega)
  have fx : x < 18446744073709551616 := hx ▸ int_fits a
  have fy : y < 18446744073709551616 := hy ▸ int_fits b
  have vm := mix_fv a b x y (by omega) (by omega) vx vy
  obtain ⟨hf, v4⟩ := four_fv (mixF x y) (3 * a + b) (by omega) vm
  have vi := of_int (3 * a + b) (by omega)
  have ho := fv_eq v4 vi
  rw [show ((3 * a + b : Nat) : Int) = 3 * (a : Int) + (b : Int) from by omega] at ho
  obtain ⟨l0, hl0⟩ : ∃ l0, l0 = List.replicate (0 + 1) ((0 : Nat), false) := ⟨_, rfl⟩
  have hG0 : GoodL l0 := hl0 ▸ goodL_new _
  have hP0 : pin l0 0 = true := by rw [hl0]; rfl
  have hT0 : told l0 0 = false := hl0 ▸ told_new _ _
  have hS1 := score_rep hP0 tx
  rw [hT0] at hS1
  simp only [Bool.false_eq_true, if_false] at hS1
  have hG1 := goodL_rep hG0 0 x fx
  have hP1 : pin (repL l0 0 x) 0 = true := by rw [pin_rep]; exact hP0
  have hE1 := repE_ok hP0 tx
  have hL1 := rep_length l0 0 x
  obtain ⟨l1, hl1⟩ : ∃ l1, l1 = repL l0 0 x := ⟨_, rfl⟩
  rw [← hl1] at hS1 hG1 hP1 hL1
  have hE2 := repE_ok hP1 ty
  have hS2 := (score_rep hP1 ty).1
  rw [hS1.2, if_pos rfl, hS1.1] at hS2
  have hL2 := rep_length l1 0 y
  obtain ⟨l2, hl2⟩ : ∃ l2, l2 = repL l1 0 y := ⟨_, rfl⟩
  rw [← hl2] at hS2 hL2
  have hB2 := best_one l2 (by rw [hL2, hL1, hl0]; rfl)
  have HM := Lib.hid (And.intro hA hB)
  have H1 := Lib.hid (And.intro hE1 (And.intro hG0 (And.intro hl1 fx)))
  have H2 := Lib.hid (And.intro hE2 (And.intro hG1 (And.intro hl2 fy)))
  have H3 := Lib.hid (And.intro hS2 hB2)
  have H0 := Lib.hid hl0
  have HX := Lib.hid (And.intro hx hy)
  have hf4 : ∀ W, (binOp .mul 52 (.float .f64 (mixF x y)) (.float .f64 4616189618054758400)).run Try.prog W = .ok (.float .f64 (mulF (mixF x y) 4616189618054758400)) W := fun W => run_float_arith W _ _ _ _ _ _ hf
  have hab : 3 * (a : Int) + (b : Int) ≤ 9223372036854775807 := by omega
  have hab3 : 3 * (a : Int) ≤ 9223372036854775807 := by omega
  rw [show floatOfInt .f64 (3 * (a : Int) + (b : Int)) = floatOfInt .f64 (3 * (a : Int) + (b : Int)) from rfl] at ho
  have hx' := hx.symm
  have hy' := hy.symm
  clear hm hn hA hB w0 w1 vx vy tx ty fx fy vm hf v4 vi hl0 hG0 hP0 hT0 hS1 hG1 hP1 hE1 hL1 hl1 hE2 hS2 hL2 hl2 hB2 hx hy
  go_enter Try.func8, Try.ntmps8
  go_wp2_with fail
  refine (works_any _).mono ?_
  rintro e w1 ⟨rfl, hb1'⟩
  go_wp2_with fail
  refine (bring_any a0 1099511627776 _ (by omega)).mono ?_
  rintro e w' ⟨rfl, rfl⟩
  rw [HM.out.1]
  go_wp2_with fail
  refine (bring_any b0 1099511627776 _ (by omega)).mono ?_
  rintro e w' ⟨rfl, rfl⟩
  rw [HM.out.2]
  go_wp2_with fail
  refine (begin_any 0 (by omega) _).mono ?_
  rintro e w2 ⟨rfl, hb2', hp, hz⟩
  rw [← H0.out] at hp
  have HW2 := Bt hb1' hb2'
  have lx := hb1'.size
  obtain ⟨g, hg⟩ : ∃ g, g = w1.heap.size := ⟨_, rfl⟩
  rw [← hg] at hp lx ⊢
  clear hb1' hb2' hg hz
  go_wp2_with fail
  refine (report_any _ g l0 0 x H1.out.2.2.2 H1.out.2.1 _ hp).mono ?_
  rintro e w3 ⟨rfl, hm3, hp3⟩
  rw [H1.out.1]
  rw [← H1.out.2.2.1] at hp3
  have HW3 := Bm HW2 hm3 (fun i hi => by omega)
  clear hp hm3 HW2
  go_wp2_with fail
  refine (report_any _ g l1 0 y H2.out.2.2.2 H2.out.2.1 _ hp3).mono ?_
  rintro e w4 ⟨rfl, hm4, hp4⟩
  rw [H2.out.1]
  rw [← H2.out.2.2.1] at hp4
  have HW4 := Bm HW3 hm4 (fun i hi => by omega)
  clear hp3 hm4 HW3
  go_wp2_with fail
  refine (score_any _ g l2 0 _ hp4).mono ?_
  rintro e w' ⟨rfl, rfl⟩
  rw [H3.out.1]
  go_wp2_with fail
  refine (best_any _ g l2 _ hp4).mono ?_
  rintro e w5 ⟨rfl, hb5⟩
  rw [H3.out.2]
  have HW5 := Bt HW4 hb5
  go_wp2_with fail
  go_ret
  exact ⟨rfl, HW5⟩
end Go.Proofs.Ytdnbbjhickjnmaa
