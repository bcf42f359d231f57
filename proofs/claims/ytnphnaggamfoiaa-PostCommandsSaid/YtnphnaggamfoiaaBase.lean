/- Walks of the helpers that seats share: Bring, EqBytes, CopyBytes. -/
import Derived.Test.YtnphnaggamfoiaaMem
import Derived.Test.YtnphnaggamfoiaaChecked
import Derived.Handy
import Derived.BigQuiet
import Derived.Deep.QuietTactic
import Derived.Lib.Hide
import Derived.StillTailTactics
import Derived.WalkSpells
import Derived.Laws.CopyOwn
import Derived.Deep.RegionHeld3
namespace Go.Proofs.Ytnphnaggamfoiaa
open Go.RowKit
set_option linter.unusedVariables false
set_option linter.unusedSimpArgs false

theorem ret_bool {a b : Bool} (h : a = b) : Ending.returned (.bool a) = .returned (.bool b) := by rw [h]
theorem ret_int {k : IntKind} {a b : Int} (h : a = b) : Ending.returned (.int k a) = .returned (.int k b) := by rw [h]

def bringF (i n : Int) : Int := if n ≤ 0 then 0 else if i.tmod n < 0 then i.tmod n + n else i.tmod n
theorem bringF_lt (i n : Int) (h : 0 < n) : 0 ≤ bringF i n ∧ bringF i n < n := by
  unfold bringF
  rw [if_neg (by omega)]
  have h1 := Int.tmod_lt_of_pos i h
  have h2 : -n < i.tmod n := Int.lt_tmod_of_pos i h
  split <;> omega

theorem bring_any (i n : Int) (w : World) (hn : n ≤ 9223372036854775807) : Calls Try.prog 19 #[.int .i64 i, .int .i64 n] w fun e w' => e = .returned (.int .i64 (bringF i n)) ∧ w = w' := by
  by_cases h1 : n ≤ 0
  · unfold bringF
    rw [if_pos h1]
    go_enter Try.func19, Try.ntmps19
    go_wp2
    go_ret
    exact ⟨rfl, rfl⟩
  · have hb := bringF_lt i n (by omega)
    unfold bringF at hb ⊢
    rw [if_neg h1] at hb ⊢
    by_cases h2 : i.tmod n < 0
    · rw [if_pos h2] at hb ⊢
      go_enter Try.func19, Try.ntmps19
      go_wp2
      go_ret
      exact ⟨rfl, rfl⟩
    · rw [if_neg h2] at hb ⊢
      go_enter Try.func19, Try.ntmps19
      go_wp2
      go_ret
      exact ⟨rfl, rfl⟩

def eqB (xs ys : List Int) : Bool := decide (xs = ys)

theorem eqB_len {xs ys : List Int} (h : xs.length ≠ ys.length) : eqB xs ys = false := by
  simp only [eqB, decide_eq_false_iff_not]; intro e; exact h (by rw [e])
theorem eqB_at {xs ys : List Int} (k : Nat) (h : xs[k]? ≠ ys[k]?) : eqB xs ys = false := by
  simp only [eqB, decide_eq_false_iff_not]; intro e; exact h (by rw [e])

theorem bts_getElem? (xs : List Int) (k : Nat) (h : k < xs.length) : (bts xs)[k]? = some (.int .u8 xs[k]) := by simp [bts, h]

theorem eq_bytes (S T : Nat → Prop) (v1 v2 : Value) (xs ys : List Int) (w : World) (h1 : Rd w S 1 v1 xs.length (bts xs)) (h2 : Rd w T 1 v2 ys.length (bts ys)) :
    Calls Try.prog 24 #[v1, v2] w fun e w' => e = .returned (.bool (eqB xs ys)) ∧ ∃ n, w' = w.drewN n := by
  obtain ⟨_, A1, c1, rfl, hn1, hm1, hc1⟩ := h1
  obtain ⟨_, A2, c2, rfl, hn2, hm2, hc2⟩ := h2
  unfold maxLen at hm1 hm2
  by_cases hl : xs.length = ys.length
  · have hl1 : ((xs.length : Int) == (ys.length : Int)) = true := by simp [hl]
    rcases Nat.eq_zero_or_pos xs.length with h0 | h0
    · obtain rfl : xs = [] := List.eq_nil_of_length_eq_zero h0
      obtain rfl : ys = [] := List.eq_nil_of_length_eq_zero (by omega)
      clear hc1 hc2
      go_enter Try.func24, Try.ntmps24
      go_wp2
      go_rounds 1
      go_ret
      exact ⟨ret_bool rfl, 0, rfl⟩
    · obtain ⟨g1, o1, rfl, _, hc1⟩ := hc1 h0
      obtain ⟨g2, o2, rfl, _, hc2⟩ := hc2 (by omega)
      have HL := Lib.hid hl
      clear hl
      have HC1 := Lib.hid hc1
      have HC2 := Lib.hid hc2
      clear hc1 hc2
      go_enter Try.func24, Try.ntmps24
      go_wp2
      go_loopw [5] (fun i wr => ∃ k : Nat, k ≤ xs.length ∧ i = .int .i64 k ∧ (∃ n, wr = w.drewN n) ∧ xs.take k = ys.take k) (fun i _ => xs.length - (intOf i).toNat)
      case atStart => exact ⟨0, Nat.zero_le _, rfl, ⟨0, rfl⟩, rfl⟩
      case round =>
        obtain ⟨k, hk, rfl, ⟨nd, rfl⟩, htk⟩ := hrel
        have HT := Lib.hid htk
        clear htk
        by_cases hlt : k < xs.length
        · have hlt2 : k < ys.length := by have := HL.out; omega
          have e1 : w.cell? ⟨g1, o1 + k, none⟩ = some (.int .u8 xs[k]) := HC1.out k _ (bts_getElem? xs k hlt)
          have e2 : w.cell? ⟨g2, o2 + k, none⟩ = some (.int .u8 ys[k]) := HC2.out k _ (bts_getElem? ys k hlt2)
          by_cases he : xs[k] = ys[k]
          · have hb : (xs[k] != ys[k]) = false := by simp [he]
            have HE := Lib.hid he
            clear he
            go_wp2
            go_quiet (fail)
            go_wp2
            go_roundw
            case rel => exact ⟨k + 1, by omega, by go_num, ⟨nd + nq, rfl⟩, by rw [List.take_succ_eq_append_getElem hlt, List.take_succ_eq_append_getElem hlt2, HT.out, HE.out]⟩
            case measure => simp [intOf]; omega
          · have hb : (xs[k] != ys[k]) = true := by simp [he]
            have HE := Lib.hid he
            clear he
            go_wp2
            go_quiet (fail)
            go_wp2
            go_ret
            exact ⟨ret_bool (eqB_at k (by rw [List.getElem?_eq_getElem hlt, List.getElem?_eq_getElem hlt2]; simpa using HE.out)).symm, nd + nq, World.drewN_drewN ..⟩
        · go_wp2
          go_ret
          obtain rfl : k = xs.length := by omega
          refine ⟨ret_bool ?_, nd, rfl⟩
          have h1 := HT.out
          rw [List.take_of_length_le (Nat.le_refl _), List.take_of_length_le (by have := HL.out; omega)] at h1
          simp [eqB, h1]
  · have hl1 : ((xs.length : Int) == (ys.length : Int)) = false := by simp; omega
    rw [eqB_len hl]
    clear hc1 hc2
    go_enter Try.func24, Try.ntmps24
    go_wp2
    go_ret
    exact ⟨ret_bool rfl, 0, rfl⟩
theorem info5 : (Try.prog.info? 5).map (fun i => (i.zero, i.size, i.bytes)) = some (some (.int .u8 0), 1, 1) := by kernel_rfl

theorem bts_one (xs : List Int) : ∀ u ∈ bts xs, u.oneCell' = true := by
  intro u hu
  simp only [bts, List.mem_map] at hu
  obtain ⟨x, _, rfl⟩ := hu
  rfl

theorem copy_bytes (S : Nat → Prop) (v : Value) (xs : List Int) (w : World) (h : Rd w S 1 v xs.length (bts xs)) (hsz : xs.length ≤ 140737488355328) :
    Calls Try.prog 20 #[v] w fun e w' => ∃ A c, e = .returned (.slice A xs.length c) ∧ Fresh w w' A c xs := by
  obtain ⟨i0, hi0, hz0, hz1, hz2⟩ := info_parts info5
  go_enter Try.func20, Try.ntmps20
  go_wp2_with (at_builtin; refine wpList_append_rd _ rfl (.tmp 4) (.tmp 5) _ rfl w.heap.size 5 i0 _ 1 1 Try.underlying23 hi0 hz0 hz1 hz2 rfl (by omega) (.slice none 0 0) 0 [] rfl (World.ownsRow_nil _ _ _ _) S v xs.length (bts xs) rfl h (bts_one xs) (by simp only [maxLen]; omega) (by omega) (Nat.le_refl _) ?_; intro v1 w1 HA)
  go_ret
  obtain ⟨A, c, rfl⟩ := own_slice HA.own
  simp only [Nat.zero_add, List.nil_append] at HA
  exact ⟨A, c, by simp, HA.own, (Below.refl _ _).grown HA.grown (Nat.le_refl _) (by simp [Value.ownBlock])⟩


end Go.Proofs.Ytnphnaggamfoiaa
