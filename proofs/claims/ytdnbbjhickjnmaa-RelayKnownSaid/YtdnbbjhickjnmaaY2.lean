/- The reference's reader: size, number. -/
import Derived.Test.YtdnbbjhickjnmaaY1
namespace Go.Proofs.Ytdnbbjhickjnmaa.Wr
open Go.RowKit
set_option linter.unusedVariables false
set_option maxRecDepth 20000
set_option linter.unusedSimpArgs false

theorem usize_any (n : Int) (w : World) : Calls Try.prog 77 #[.int .i64 n] w fun e w' => e = .returned (.bool (decide (0 < n) && decide (n < 9))) ∧ w = w' := by
  go_enter Try.func77, Try.ntmps77
  go_wp2
  all_goals go_ret
  all_goals refine ⟨ret_bool ?_, rfl⟩
  all_goals (rw [Bool.eq_iff_iff]; simp; try omega)

theorem uleft_any (S : Nat → Prop) (p : Nat) (ys : List Int) (w : World) (h : RfAt w S p ys) :
    Calls Try.prog 69 #[.pointer (some ⟨p, 0, none⟩)] w fun e w' => e = .returned (.int .i64 ys.length) ∧ ∃ n, w' = w.drewN n := by
  obtain ⟨h1, A, c, pre, hl, h2, h4, h6, h7⟩ := h
  obtain ⟨x0, x1, f0, f1⟩ := blk2 h4
  clear h1 h2 h4 h6 h7
  go_enter Try.func69, Try.ntmps69
  go_wp2_with fail
  go_quiet (fail)
  go_wp2_with fail
  go_ret
  exact ⟨ret_int (by omega), nq, rfl⟩

end Go.Proofs.Ytdnbbjhickjnmaa.Wr
