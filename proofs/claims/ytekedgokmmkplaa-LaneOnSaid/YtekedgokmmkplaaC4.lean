/- The statements LaneSides, LaneOn: their walks. -/
import Derived.Test.YtekedgokmmkplaaC1
namespace Go.Proofs.Ytekedgokmmkplaa
open Go.RowKit
set_option linter.unusedVariables false
set_option linter.unusedSimpArgs false

def Dj (S T : Nat → Prop) : Prop := ∀ i, S i → ¬ T i
theorem Dj.symm {S T : Nat → Prop} (h : Dj S T) : Dj T S := fun i ht hs => h i hs ht
theorem Dj.step {S T S' : Nat → Prop} {n : Nat} (h : Dj S T) (hs : ∀ i, S' i → S i ∨ n ≤ i) (ht : ∀ i, T i → i < n) : Dj S' T := fun i hi hti => by
  rcases hs i hi with h1 | h1
  · exact h i h1 hti
  · have := ht i hti; omega

theorem LaneAt.lt {w : World} {S : Nat → Prop} {p : Nat} {ds : List Dg} {sd : Int} (h : LaneAt w S p ds sd) : ∀ i, S i → i < w.heap.size := h.2.1
theorem reaches_at {S : Nat → Prop} {p : Nat} {ds : List Dg} {sd : Int} {r : Bool} (a b : Int) (w : World) (h : LaneAt w S p ds sd) (s0 : 0 ≤ sd) (s1 : sd < 9223372036854775808) (hr : reachF sd a b = r) :
    Calls Try.prog 20 #[.pointer (some ⟨p, 0, none⟩), .int .i64 a, .int .i64 b] w fun e w' => e = .returned (.bool r) ∧ ∃ n, w' = w.drewN n := by
  obtain ⟨_, _, _, l, sl, T, _, hb, _⟩ := h
  exact hr ▸ reaches_any p sl sd a b w hb s0 s1

theorem quiet_add {P : Program} {f : FuncId} {args : Array Value} {w : World} {n : Nat} {v : Value}
    (h : Calls P f args (w.drewN n) fun e w' => e = .returned v ∧ ∃ m, w' = (w.drewN n).drewN m) : Calls P f args (w.drewN n) fun e w'' => e = .returned v ∧ ∃ m, w'' = w.drewN m :=
  h.mono fun _ _ ⟨he, m, hm⟩ => ⟨he, n + m, by rw [hm, World.drewN_drewN]⟩

def mask62 : Int := 4611686018427387903
theorem mask_and (x : Int) : 0 ≤ bits .and .i64 x 4611686018427387903 ∧ bits .and .i64 x 4611686018427387903 ≤ 4611686018427387903 := by
  have h1 : (BitVec.ofInt 64 4611686018427387903).toNat = 4611686018427387903 := by decide +kernel
  have hx : (BitVec.ofInt 64 x).toNat &&& 4611686018427387903 < 2 ^ 62 := Nat.and_lt_two_pow _ (by omega)
  have e : bits .and .i64 x 4611686018427387903 = (((BitVec.ofInt 64 x).toNat &&& 4611686018427387903 : Nat) : Int) := by
    show IntKind.i64.wrap ((BitVec.ofInt 64 x &&& BitVec.ofInt 64 4611686018427387903).toNat : Int) = _
    rw [BitVec.toNat_and, h1, IntKind.wrap_i64]
    omega
  rw [e]
  omega
theorem mask_xor (s : Int) (h0 : 0 ≤ s) (h1 : s ≤ 4611686018427387903) : bits .xor .i64 s 4611686018427387903 = 4611686018427387903 - s := by
  obtain ⟨n, rfl⟩ := Int.eq_ofNat_of_zero_le h0
  have h2 : n < 2 ^ 62 := by omega
  rw [show (4611686018427387903 : Int) = ((4611686018427387903 : Nat) : Int) from rfl, xor_nat n 4611686018427387903 (by omega) (by omega)]
  have e : n ^^^ 4611686018427387903 = 4611686018427387903 - n := by
    rw [show 4611686018427387903 = 2 ^ 62 - 1 from rfl, show 2 ^ 62 - 1 - n = 2 ^ 62 - (n + 1) from by omega]
    apply Nat.eq_of_testBit_eq
    intro i
    rw [Nat.testBit_xor, Nat.testBit_two_pow_sub_one, Nat.testBit_two_pow_sub_succ h2]
    by_cases hi : i < 62
    · simp [hi]
    · have : n.testBit i = false := Nat.testBit_lt_two_pow (Nat.lt_of_lt_of_le h2 (Nat.pow_le_pow_right (by omega) (by omega)))
      simp [hi, this]
  rw [e]
  omega
theorem sideBit_nat (n k : Nat) : sideBit (n : Int) k = n.testBit k := by
  rw [Nat.testBit_eq_decide_div_mod_eq]
  unfold sideBit
  rw [decide_eq_decide]
  have e : ((n : Int) / 2 ^ k) = ((n / 2 ^ k : Nat) : Int) := by simp
  rw [e]
  omega
theorem side_flip (s : Int) (h0 : 0 ≤ s) (h1 : s ≤ 4611686018427387903) (k : Nat) (hk : k < 62) : sideBit (4611686018427387903 - s) k = !sideBit s k := by
  obtain ⟨n, rfl⟩ := Int.eq_ofNat_of_zero_le h0
  have h2 : n < 2 ^ 62 := by omega
  rw [show (4611686018427387903 : Int) - (n : Int) = ((2 ^ 62 - (n + 1) : Nat) : Int) from by omega, sideBit_nat, sideBit_nat, Nat.testBit_two_pow_sub_succ h2]
  simp [hk]
theorem side_none (k : Nat) : sideBit 0 k = false := by simp [sideBit]
theorem side_all (k : Nat) (hk : k < 62) : sideBit 4611686018427387903 k = true := by
  have := side_flip 0 (by omega) (by omega) k hk
  rw [side_none] at this
  simpa using this

theorem reach_flip (s a b : Int) (h0 : 0 ≤ s) (h1 : s ≤ 4611686018427387903) : reachF (4611686018427387903 - s) a b = reachF s a b := by
  unfold reachF
  cases ha : adr a <;> cases hb : adr b <;> simp only [Bool.false_and, Bool.and_false, Bool.true_and]
  have r1 := adr_range ha
  have r2 := adr_range hb
  rw [side_flip s h0 h1 _ (by omega), side_flip s h0 h1 _ (by omega)]
  cases sideBit s a.toNat <;> cases sideBit s b.toNat <;> rfl
theorem reach_none (a b : Int) (ha : adr a = true) (hb : adr b = true) : reachF 0 a b = true := by simp [reachF, ha, hb, side_none]
theorem reach_all (a b : Int) (ha : adr a = true) (hb : adr b = true) : reachF 4611686018427387903 a b = true := by
  have r1 := adr_range ha
  have r2 := adr_range hb
  simp only [reachF, ha, hb, Bool.true_and, side_all _ (show a.toNat < 62 by omega), side_all _ (show b.toNat < 62 by omega)]
  rfl
/-- The two bits, held against each other as the statement does. -/
theorem bits_eq (s : Int) (h0 : 0 ≤ s) (h1 : s < 9223372036854775808) (a b : Int) (ha : adr a = true) (hb : adr b = true) :
    (bits BinOp.and IntKind.i64 (s / 2 ^ a.toNat) 1 == bits BinOp.and IntKind.i64 (s / 2 ^ b.toNat) 1) = reachF s a b := by
  obtain ⟨X, hX, hX'⟩ := div_pow_nat s h0 a.toNat
  obtain ⟨Y, hY, hY'⟩ := div_pow_nat s h0 b.toNat
  have e : reachF s a b = (decide ((X : Int) % 2 = 1) == decide ((Y : Int) % 2 = 1)) := by
    simp only [reachF, ha, hb, Bool.true_and, sideBit, hX, hY]
  rw [e, hX, hY, show (1 : Int) = ((1 : Nat) : Int) from rfl, and_nat X 1 (by omega) (by omega), and_nat Y 1 (by omega) (by omega), Nat.and_one_is_mod, Nat.and_one_is_mod]
  have e1 : (X : Int) % 2 = ((X % 2 : Nat) : Int) := by simp
  have e2 : (Y : Int) % 2 = ((Y % 2 : Nat) : Int) := by simp
  rw [e1, e2]
  rcases Nat.mod_two_eq_zero_or_one X with h1 | h1 <;> rcases Nat.mod_two_eq_zero_or_one Y with h2 | h2 <;> rw [h1, h2] <;> decide

theorem cutE_nn {s : Int} (h : 0 ≤ s) : cutE s = 0 := by simp [cutE]; omega
theorem cutS_nn {s : Int} (h : 0 ≤ s) (sd : Int) : cutS sd s = s := by simp [cutS]; omega

set_option maxHeartbeats 2000000 in
theorem laneSides_walk (W : World) (side : Int) (w0 : (Lit.int .i64 side).wf = true) (a0 : Int) (w1 : (Lit.int .i64 a0).wf = true) (b0 : Int) (w2 : (Lit.int .i64 b0).wf = true) :
    Calls Try.prog 10 #[.int .i64 side, .int .i64 a0, .int .i64 b0] W fun e w' => e = .returned (.bool true) ∧ Below W.heap.size W w' := by
  clear w0 w1 w2
  obtain ⟨hm0, hm1⟩ := mask_and side
  go_enter Try.func10, Try.ntmps10
  go_wp2_with fail
  refine (works_any _).mono ?_
  rintro e w1 ⟨rfl, hb1⟩
  go_wp2_with fail
  generalize bits BinOp.and IntKind.i64 side 4611686018427387903 = s at hm0 hm1 ⊢
  refine (address_any a0 _).mono ?_
  rintro e w' ⟨rfl, rfl⟩
  have ha := adr_addrF a0
  generalize addrF a0 = a at ha ⊢
  have HA := Lib.hid ha
  obtain ⟨ra0, ra1⟩ := adr_range ha
  clear ha
  go_wp2_with fail
  refine (address_any b0 _).mono ?_
  rintro e w' ⟨rfl, rfl⟩
  have hb := adr_addrF b0
  generalize addrF b0 = b at hb ⊢
  have HB := Lib.hid hb
  obtain ⟨rb0, rb1⟩ := adr_range hb
  clear hb
  go_wp2_with fail
  refine (new_any _).mono ?_
  rintro e w2 ⟨rfl, hb2, hx2⟩
  go_wp2_with fail
  refine (new_any _).mono ?_
  rintro e w3 ⟨rfl, hb3, hy3⟩
  have hx3 := hx2.below hb3
  have hd3 : Dj (fun k => k = w1.heap.size) (fun k => k = w2.heap.size) := fun i hi hj => by subst hi; have := hx2.lt _ rfl; omega
  have hS : ∀ i, i = w1.heap.size → W.heap.size ≤ i := fun i hi => by subst hi; exact hb1.size
  have HW3 := Lib.hid (Bt (Bt hb1 hb2) hb3)
  have hlw : W.heap.size ≤ w2.heap.size := (Bt hb1 hb2).size
  clear hx2 hb2 hb3
  go_wp2_with fail
  refine (cut_any _ _ _ _ s _ hx3).mono ?_
  rintro e w4 ⟨rfl, S4, hm4, hx4, hs4⟩
  rw [cutE_nn hm0]
  rw [cutS_nn hm0] at hx4
  have hy4 := hy3.kept hm4 hd3.symm
  have hd4 : Dj S4 (fun k => k = w2.heap.size) := hd3.step hs4 hy3.lt
  have hS4 : ∀ i, S4 i → W.heap.size ≤ i := fun i hi => (hs4 i hi).elim (hS i) (fun h => Nat.le_trans HW3.out.size h)
  have HW4 := Lib.hid (Bm HW3.out hm4 hS)
  replace hd4 := Lib.hid hd4
  replace hS4 := Lib.hid hS4
  clear hm4 hs4 hx3 hy3 hd3 hS HW3
  go_wp2_with fail
  rw [mask_xor s hm0 hm1]
  have hs20 : (0 : Int) ≤ 4611686018427387903 - s := by omega
  refine (cut_any _ _ _ _ (4611686018427387903 - s) _ hy4).mono ?_
  rintro e w5 ⟨rfl, T5, hm5, hy5, ht5⟩
  rw [cutE_nn hs20]
  rw [cutS_nn hs20] at hy5
  have hx5 := hx4.kept hm5 hd4.out
  have hd5 := Lib.hid (hd4.out.symm.step ht5 hx4.lt).symm
  have HW5 := Lib.hid (Bm HW4.out hm5 (fun i hi => by subst hi; exact hlw))
  clear hm5 ht5 hx4 hy4 hd4 HW4
  have hs63 : s < 9223372036854775808 := by omega
  have hs263 : 4611686018427387903 - s < 9223372036854775808 := by omega
  have hR : reachF (4611686018427387903 - s) a b = reachF s a b := reach_flip s a b hm0 hm1
  have hbe := bits_eq s hm0 hs63 a b HA.out HB.out
  obtain ⟨r, hr⟩ : ∃ r, reachF s a b = r := ⟨_, rfl⟩
  rw [hr] at hR hbe
  have HR := Lib.hid (And.intro hr hR)
  clear hr hR
  go_wp2_with fail
  cases r
  all_goals
    go_quiet ((first
      | (go_at_call_of 20 (Value.pointer (some ⟨w1.heap.size, 0, none⟩)); exact quiet_add (reaches_at a b _ hx5 hm0 hs63 HR.out.1))
      | (go_at_call 20; exact quiet_add (reaches_at a b _ hy5 hs20 hs263 HR.out.2))))
    replace hx5 := hx5.below (BdN (B0 w5) nq)
    replace HW5 := Lib.hid (BdN HW5.out nq)
    replace hS4 := Lib.hid (And.intro hS4.out hx5.lt)
    clear hbe hy5 hd5 HR
    go_wp2_with fail
    refine (cut_any _ _ _ _ 0 _ hx5).mono ?_
    rintro e w6 ⟨rfl, S6, hm6, hx6, hs6⟩
    rw [cutE_nn (Int.le_refl 0)]
    rw [cutS_nn (Int.le_refl 0)] at hx6
    have HW6 := Lib.hid (Bm HW5.out hm6 hS4.out.1)
    replace hs6 := Lib.hid (show ∀ i, S6 i → W.heap.size ≤ i from fun i hi => (hs6 i hi).elim (hS4.out.1 i) (fun h => Nat.le_trans HW5.out.size h))
    clear hm6 hx5 HW5 hS4
    go_wp2_with fail
    refine (reaches_at a b _ hx6 (by omega) (by omega) (reach_none a b HA.out HB.out)).mono ?_
    rintro e w' ⟨rfl, n6, rfl⟩
    replace hx6 := hx6.below (BdN (B0 w6) n6)
    go_wp2_with fail
    refine (cut_any _ _ _ _ 4611686018427387903 _ hx6).mono ?_
    rintro e w7 ⟨rfl, S7, hm7, hx7, hs7⟩
    rw [cutE_nn (by omega)]
    rw [cutS_nn (by omega)] at hx7
    have HW7 := Lib.hid (Bm (BdN HW6.out n6) hm7 hs6.out)
    clear hm7 hx6 HW6
    go_wp2_with fail
    refine (reaches_at a b _ hx7 (by omega) (by omega) (reach_all a b HA.out HB.out)).mono ?_
    rintro e w' ⟨rfl, n7, rfl⟩
    clear hx7
    go_wp2_with fail
    refine (new_any _).mono ?_
    rintro e w8 ⟨rfl, hb8, hz8⟩
    go_wp2_with fail
    refine (reaches_at a b _ hz8 (by omega) (by omega) (reach_none a b HA.out HB.out)).mono ?_
    rintro e w' ⟨rfl, n8, rfl⟩
    go_wp2_with fail
    go_ret
    exact ⟨rfl, BdN (Bt (BdN HW7.out n7) hb8) n8⟩
end Go.Proofs.Ytekedgokmmkplaa
