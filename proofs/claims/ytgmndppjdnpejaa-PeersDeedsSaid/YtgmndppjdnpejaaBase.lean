/- Walks of the helpers that seats share: Bring, EqBytes, CopyBytes. -/
import Derived.Test.YtgmndppjdnpejaaMem
import Derived.Test.YtgmndppjdnpejaaChecked
import Derived.Handy
import Derived.BigQuiet
import Derived.Deep.QuietTactic
import Derived.Lib.Hide
import Derived.StillTailTactics
import Derived.WalkSpells
import Derived.Laws.CopyOwn
import Derived.Deep.RegionHeld3
namespace Go.Proofs.Ytgmndppjdnpejaa
open Go.RowKit
set_option linter.unusedVariables false
set_option linter.unusedSimpArgs false

theorem ret_bool {a b : Bool} (h : a = b) : Ending.returned (.bool a) = .returned (.bool b) := by rw [h]
theorem ret_int {k : IntKind} {a b : Int} (h : a = b) : Ending.returned (.int k a) = .returned (.int k b) := by rw [h]

def bringF (i n : Int) : Int := if n ≤ 0 then 0 else if i.tmod n < 0 then i.tmod n + n else i.tmod n
theorem bringF_lt (i n : Int) (h : 0 < n) : 0 ≤ bringF i n ∧ bringF i n < n := by
  unfold bringF
  rw [if_neg (by omega)]
  have h1 := Int.tmod_lt_of_pos i h
  have h2 : -n < i.tmod n := Int.lt_tmod_of_pos i h
  split <;> omega

theorem bring_any (i n : Int) (w : World) (hn : n ≤ 9223372036854775807) : Calls Try.prog 22 #[.int .i64 i, .int .i64 n] w fun e w' => e = .returned (.int .i64 (bringF i n)) ∧ w = w' := by
  by_cases h1 : n ≤ 0
  · unfold bringF
    rw [if_pos h1]
    go_enter Try.func22, Try.ntmps22
    go_wp2
    go_ret
    exact ⟨rfl, rfl⟩
  · have hb := bringF_lt i n (by omega)
    unfold bringF at hb ⊢
    rw [if_neg h1] at hb ⊢
    by_cases h2 : i.tmod n < 0
    · rw [if_pos h2] at hb ⊢
      go_enter Try.func22, Try.ntmps22
      go_wp2
      go_ret
      exact ⟨rfl, rfl⟩
    · rw [if_neg h2] at hb ⊢
      go_enter Try.func22, Try.ntmps22
      go_wp2
      go_ret
      exact ⟨rfl, rfl⟩

def eqB (xs ys : List Int) : Bool := decide (xs = ys)

theorem eqB_len {xs ys : List Int} (h : xs.length ≠ ys.length) : eqB xs ys = false := by
  simp only [eqB, decide_eq_false_iff_not]; intro e; exact h (by rw [e])
theorem eqB_at {xs ys : List Int} (k : Nat) (h : xs[k]? ≠ ys[k]?) : eqB xs ys = false := by
  simp only [eqB, decide_eq_false_iff_not]; intro e; exact h (by rw [e])

theorem bts_getElem? (xs : List Int) (k : Nat) (h : k < xs.length) : (bts xs)[k]? = some (.int .u8 xs[k]) := by simp [bts, h]

theorem info5 : (Try.prog.info? 5).map (fun i => (i.zero, i.size, i.bytes)) = some (some (.int .u8 0), 1, 1) := by kernel_rfl

theorem bts_one (xs : List Int) : ∀ u ∈ bts xs, u.oneCell' = true := by
  intro u hu
  simp only [bts, List.mem_map] at hu
  obtain ⟨x, _, rfl⟩ := hu
  rfl

end Go.Proofs.Ytgmndppjdnpejaa
