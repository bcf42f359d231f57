/- The reference's relay: Check, Copy. -/
import Derived.Test.YtdnbbjhickjnmaaR15
namespace Go.Proofs.Ytdnbbjhickjnmaa
open Go.RowKit
set_option maxRecDepth 20000
set_option linter.unusedVariables false
set_option linter.unusedSimpArgs false

theorem refcopy_any (S : Nat → Prop) (A : Option Addr) (c : Nat) (f t : Int) (xs : List Int) (w : World) (h : Rd w S 1 (.slice A xs.length c) xs.length (bts xs)) (hs : ∀ i, S i → i < w.heap.size) (hsz : xs.length ≤ 140737488355328) :
    Calls Try.prog 20 #[.agg #[.int .i64 f, .int .i64 t, .slice A xs.length c]] w fun e w' => ∃ A' c', e = .returned (.agg #[.int .i64 f, .int .i64 t, .slice A' xs.length c']) ∧ Fresh w w' A' c' xs := by
  have H := Lib.hid h
  clear h
  go_enter Try.func20, Try.ntmps20
  go_wp2_with fail
  refine (copy_bytes S _ xs _ (H.out.below (Ba (Ba (B0 w) _) _) hs) hsz).mono ?_
  rintro e w1 ⟨A', c', rfl, HF⟩
  have HB0 := ((Blk.new w 31 #[.int .i64 f, .int .i64 t, .slice A xs.length c]).alloc (.cells #[.int .i64 0, .int .i64 0, .slice none 0 0] 31)).later HF.kept
  have HB1 := (Blk.new1 w (.cells #[.int .i64 f, .int .i64 t, .slice A xs.length c] 31) 31 #[.int .i64 0, .int .i64 0, .slice none 0 0]).later HF.kept
  obtain ⟨q0, q1, q2, z0, z1, z2⟩ := blk3 HB0
  obtain ⟨r0, r1, r2, y0, y1, y2⟩ := blk3 HB1
  have HFF := Lib.hid HF
  go_wp2_with fail
  obtain ⟨x0, x1, x2, _⟩ := blk3 ((HB1.far (p := ⟨w.heap.size, 2, none⟩) (by simp) (.slice A' xs.length c')).set3 (.int .i64 f) (.int .i64 t) (.slice A' xs.length c'))
  refine bodyPost_ret (v := .agg #[.int .i64 f, .int .i64 t, .slice A' xs.length c']) (by simp [results, Try.results20, go_sem, x0, x1, x2]) rfl ?_
  exact ⟨A', c', rfl, HFF.out.post (Ba (Ba (B0 w) _) _) (((((Mod.refl _ _).setCell (.inl ⟨by simp, by simp <;> omega⟩) _).setCell (.inl ⟨by simp, by simp <;> omega⟩) _).setCell (.inl ⟨by simp, by simp <;> omega⟩) _).setCell (.inl ⟨by simp, by simp <;> omega⟩) _)⟩

theorem refcheck_any (f t : Int) (A : Option Addr) (n c : Nat) (w : World) : Calls Try.prog 51 #[.agg #[.int .i64 f, .int .i64 t, .slice A n c]] w fun e w' => e = .returned (.int .i64 (chkE f t n)) ∧ Below w.heap.size w w' := by
  unfold chkE
  cases hf : nodeB f
  · have HF := Lib.hid hf
    clear hf
    simp only [Bool.false_and, Bool.false_eq_true, if_false]
    go_enter Try.func51, Try.ntmps51
    go_wp2_with (go_at_call_of 50 f; refine (refnode_any f _).mono ?_; rintro e w' ⟨rfl, rfl⟩; rw [HF.out])
    go_ret
    exact ⟨rfl, Ba (B0 w) _⟩
  · cases ht : nodeB t
    · have HF := Lib.hid hf
      have HT := Lib.hid ht
      clear hf ht
      simp only [Bool.false_and, Bool.and_false, Bool.false_eq_true, if_false]
      by_cases hab : f = t
      · exfalso; have h1 := HF.out; have h2 := HT.out; rw [hab, h2] at h1; cases h1
      clear hab
      go_enter Try.func51, Try.ntmps51
      go_wp2_with (first
        | (go_at_call_of 50 f; refine (refnode_any f _).mono ?_; rintro e w' ⟨rfl, rfl⟩; rw [HF.out])
        | (go_at_call_of 50 t; refine (refnode_any t _).mono ?_; rintro e w' ⟨rfl, rfl⟩; rw [HT.out]))
      go_ret
      exact ⟨rfl, Ba (B0 w) _⟩
    · cases hne : (f == t)
      · have HF := Lib.hid hf
        have HT := Lib.hid ht
        clear hf ht
        simp only [Bool.true_and, Bool.not_false, if_true]
        by_cases hn : 4608 < n
        · have hn' : (4608 : Int) < (n : Int) := by omega
          rw [if_pos hn]
          clear hn
          go_enter Try.func51, Try.ntmps51
          go_wp2_with (first
            | (go_at_call_of 50 f; refine (refnode_any f _).mono ?_; rintro e w' ⟨rfl, rfl⟩; rw [HF.out])
            | (go_at_call_of 50 t; refine (refnode_any t _).mono ?_; rintro e w' ⟨rfl, rfl⟩; rw [HT.out]))
          go_ret
          exact ⟨rfl, Ba (B0 w) _⟩
        · have hn' : ¬ (4608 : Int) < (n : Int) := by omega
          rw [if_neg hn]
          clear hn
          go_enter Try.func51, Try.ntmps51
          go_wp2_with (first
            | (go_at_call_of 50 f; refine (refnode_any f _).mono ?_; rintro e w' ⟨rfl, rfl⟩; rw [HF.out])
            | (go_at_call_of 50 t; refine (refnode_any t _).mono ?_; rintro e w' ⟨rfl, rfl⟩; rw [HT.out]))
          go_ret
          exact ⟨rfl, Ba (B0 w) _⟩
      · have e : f = t := by simpa using hne
        subst e
        have HF := Lib.hid hf
        clear hf ht
        simp only [Bool.and_false, Bool.not_true, Bool.false_eq_true, if_false]
        go_enter Try.func51, Try.ntmps51
        go_wp2_with (go_at_call_of 50 f; refine (refnode_any f _).mono ?_; rintro e w' ⟨rfl, rfl⟩; rw [HF.out])
        go_ret
        exact ⟨rfl, Ba (B0 w) _⟩
end Go.Proofs.Ytdnbbjhickjnmaa
