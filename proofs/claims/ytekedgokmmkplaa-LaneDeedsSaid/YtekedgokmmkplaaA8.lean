/- Reaches, of the lane. -/
import Derived.Test.YtekedgokmmkplaaA7
import Derived.Laws.BitsAllLaws
import Derived.Laws.BitsLemmas
namespace Go.Proofs.Ytekedgokmmkplaa
open Go.RowKit
set_option linter.unusedVariables false
set_option linter.unusedSimpArgs false

theorem quiet_left {P : Program} {f : FuncId} {args : Array Value} {w : World} {n : Nat} {v : Value}
    (h : Calls P f args (w.drewN n) fun e w' => e = .returned v ∧ w.drewN n = w') : Calls P f args (w.drewN n) fun e w'' => e = .returned v ∧ ∃ m, w'' = w.drewN m :=
  h.mono fun _ _ ⟨he, hm⟩ => ⟨he, n, hm.symm⟩

def sideBit (sd : Int) (a : Nat) : Bool := decide (sd / 2 ^ a % 2 = 1)
def reachF (sd from_ to_ : Int) : Bool := adr from_ && adr to_ && (sideBit sd from_.toNat == sideBit sd to_.toNat)
theorem ofInt_nat (a : Nat) (ha : a < 9223372036854775808) : (BitVec.ofInt 64 (a : Int)).toNat = a := by
  rw [BitVec.ofInt_natCast, BitVec.toNat_ofNat]; exact Nat.mod_eq_of_lt (by omega)
theorem and_nat (a b : Nat) (ha : a < 9223372036854775808) (hb : b < 9223372036854775808) : bits .and .i64 (a : Int) (b : Int) = ((a &&& b : Nat) : Int) := by
  have hx : a &&& b < 2 ^ 63 := Nat.and_lt_two_pow _ (by omega)
  show IntKind.i64.wrap ((BitVec.ofInt 64 (a : Int) &&& BitVec.ofInt 64 (b : Int)).toNat : Int) = _
  rw [BitVec.toNat_and, ofInt_nat a ha, ofInt_nat b hb, IntKind.wrap_i64]
  omega
theorem xor_nat (a b : Nat) (ha : a < 9223372036854775808) (hb : b < 9223372036854775808) : bits .xor .i64 (a : Int) (b : Int) = ((a ^^^ b : Nat) : Int) := by
  have hx : a ^^^ b < 2 ^ 63 := Nat.xor_lt_two_pow (by omega) (by omega)
  show IntKind.i64.wrap ((BitVec.ofInt 64 (a : Int) ^^^ BitVec.ofInt 64 (b : Int)).toNat : Int) = _
  rw [BitVec.toNat_xor, ofInt_nat a ha, ofInt_nat b hb, IntKind.wrap_i64]
  omega
theorem bit_law (X Y : Nat) (hX : X < 9223372036854775808) (hY : Y < 9223372036854775808) : (bits BinOp.and IntKind.i64 (bits BinOp.xor IntKind.i64 (X : Int) (Y : Int)) 1 == 0) = (decide ((X : Int) % 2 = 1) == decide ((Y : Int) % 2 = 1)) := by
  have hx : X ^^^ Y < 2 ^ 63 := Nat.xor_lt_two_pow (by omega) (by omega)
  rw [xor_nat X Y hX hY, show (1 : Int) = ((1 : Nat) : Int) from rfl, and_nat _ 1 (by omega) (by omega), Nat.and_one_is_mod]
  have h := Nat.testBit_xor X Y 0
  simp only [Nat.testBit_zero] at h
  have e1 : (X : Int) % 2 = ((X % 2 : Nat) : Int) := by simp
  have e2 : (Y : Int) % 2 = ((Y % 2 : Nat) : Int) := by simp
  rw [e1, e2]
  rcases Nat.mod_two_eq_zero_or_one X with h1 | h1 <;> rcases Nat.mod_two_eq_zero_or_one Y with h2 | h2 <;> rcases Nat.mod_two_eq_zero_or_one (X ^^^ Y) with h3 | h3 <;>
    simp only [h1, h2, h3] at h ⊢ <;> first | (simp at h; done) | decide
theorem div_pow_nat (sd : Int) (h0 : 0 ≤ sd) (a : Nat) : ∃ X : Nat, sd / 2 ^ a = (X : Int) ∧ X ≤ sd.toNat := by
  obtain ⟨s, rfl⟩ := Int.eq_ofNat_of_zero_le h0
  refine ⟨s / 2 ^ a, by simp, ?_⟩
  simp only [Int.toNat_natCast]
  exact Nat.div_le_self _ _
theorem bit_law' (sd : Int) (h0 : 0 ≤ sd) (h1 : sd < 9223372036854775808) (a b : Nat) : (bits BinOp.and IntKind.i64 (bits BinOp.xor IntKind.i64 (sd / 2 ^ a) (sd / 2 ^ b)) 1 == 0) = (sideBit sd a == sideBit sd b) := by
  unfold sideBit
  obtain ⟨X, hX, hX'⟩ := div_pow_nat sd h0 a
  obtain ⟨Y, hY, hY'⟩ := div_pow_nat sd h0 b
  rw [hX, hY]
  exact bit_law X Y (by omega) (by omega)
theorem adr_range {a : Int} (h : adr a = true) : 1 ≤ a ∧ a ≤ 28 := by simp [adr] at h; omega

theorem lane_address_is {a : Int} {b : Bool} (h : adr a = b) (w : World) : Calls Try.prog 38 #[.int .i64 a] w fun e w' => e = .returned (.bool b) ∧ w = w' := h ▸ lane_address a w

theorem reaches_any (p : Nat) (sl : Value) (sd a b : Int) (w : World) (hb : Blk w p 59 #[.bool true, sl, .int .i64 sd]) (s0 : 0 ≤ sd) (s1 : sd < 9223372036854775808) :
    Calls Try.prog 20 #[.pointer (some ⟨p, 0, none⟩), .int .i64 a, .int .i64 b] w fun e w' => e = .returned (.bool (reachF sd a b)) ∧ ∃ n, w' = w.drewN n := by
  have HB := Lib.hid hb
  obtain ⟨q0, q1, q2, z0, z1, z2⟩ := blk3 hb
  clear hb
  unfold reachF
  cases ha : adr a
  · have HA := Lib.hid ha
    clear ha
    simp only [Bool.false_and]
    go_enter Try.func20, Try.ntmps20
    go_wp2_with fail
    go_quiet ((first
      | (go_at_call 37; exact quiet_left (none_any p sl sd _ HB.out))
      | (go_at_call_of 38 a; exact quiet_left (lane_address_is HA.out _))))
    go_wp2
    go_ret
    exact ⟨rfl, nq, rfl⟩
  · cases hbb : adr b
    · have HA := Lib.hid ha
      have HA2 := Lib.hid hbb
      clear ha hbb
      simp only [Bool.false_and, Bool.and_false]
      by_cases hab : a = b
      · exfalso; have h1 := HA.out; have h2 := HA2.out; rw [hab, h2] at h1; cases h1
      clear hab
      go_enter Try.func20, Try.ntmps20
      go_wp2_with fail
      go_quiet ((first
        | (go_at_call 37; exact quiet_left (none_any p sl sd _ HB.out))
        | (go_at_call_of 38 a; exact quiet_left (lane_address_is HA.out _))
        | (go_at_call_of 38 b; exact quiet_left (lane_address_is HA2.out _))))
      go_wp2
      go_ret
      exact ⟨rfl, nq, rfl⟩
    · have HA := Lib.hid ha
      have HA2 := Lib.hid hbb
      have r1 := adr_range ha
      have r2 := adr_range hbb
      obtain ⟨r1, r3⟩ := r1
      obtain ⟨r2, r4⟩ := r2
      clear ha hbb
      simp only [Bool.true_and]
      have HL := Lib.hid (bit_law' sd s0 s1 a.toNat b.toNat)
      go_enter Try.func20, Try.ntmps20
      go_wp2_with fail
      go_quiet ((first
        | (go_at_call 37; exact quiet_left (none_any p sl sd _ HB.out))
        | (go_at_call_of 38 a; exact quiet_left (lane_address_is HA.out _))
        | (go_at_call_of 38 b; exact quiet_left (lane_address_is HA2.out _))))
      go_wp2
      go_ret
      exact ⟨ret_bool HL.out, nq, rfl⟩
end Go.Proofs.Ytekedgokmmkplaa
