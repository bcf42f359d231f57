/- Walks: own, Same, none, check. -/
import Derived.Test.YtekedgokmmkplaaA2
import Derived.Deep.OwnRows
namespace Go.Proofs.Ytekedgokmmkplaa
open Go.RowKit
set_option linter.unusedVariables false
set_option linter.unusedSimpArgs false

theorem drewN_below (w : World) (n : Nat) : Below w.heap.size w (w.drewN n) := ⟨rfl, rfl, rfl, Nat.le_refl _, fun _ _ => rfl⟩

def sameF (f t f' t' : Int) (xs ys : List Int) : Bool := decide (f = f') && decide (t = t') && eqB xs ys

theorem same_any (S T : Nat → Prop) (f t f' t' : Int) (A1 A2 : Option Addr) (c1 c2 : Nat) (xs ys : List Int) (w : World) (h1 : Rd w S 1 (.slice A1 xs.length c1) xs.length (bts xs)) (hS : ∀ i, S i → i < w.heap.size)
    (h2 : Rd w T 1 (.slice A2 ys.length c2) ys.length (bts ys)) (hT : ∀ i, T i → i < w.heap.size) :
    Calls Try.prog 19 #[.agg #[.int .i64 f, .int .i64 t, .slice A1 xs.length c1], .agg #[.int .i64 f', .int .i64 t', .slice A2 ys.length c2]] w fun e w' => e = .returned (.bool (sameF f t f' t' xs ys)) ∧ Below w.heap.size w w' := by
  by_cases hf : f = f'
  · by_cases ht : t = t'
    · subst hf
      subst ht
      go_enter Try.func19, Try.ntmps19
      go_wp2_with (go_at_call 41; refine (eq_bytes S T _ _ xs ys _ ?_ ?_).mono ?_; (exact h1.below (((Below.refl _ _).alloc (Nat.le_refl _) _).alloc (by simp) _) hS); (exact h2.below (((Below.refl _ _).alloc (Nat.le_refl _) _).alloc (by simp) _) hT); rintro e w1 ⟨rfl, nd, rfl⟩)
      go_ret
      exact ⟨ret_bool (by simp [sameF]), ((((Below.refl _ _).alloc (Nat.le_refl _) _).alloc (by simp) _)).trans ((drewN_below _ _).mono (by simp; omega))⟩
    · have ht' : (t == t') = false := by simp [ht]
      have HT := Lib.hid ht
      clear ht
      subst hf
      go_enter Try.func19, Try.ntmps19
      go_wp2_with fail
      go_ret
      exact ⟨ret_bool (by simp [sameF, HT.out]), (((Below.refl _ _).alloc (Nat.le_refl _) _).alloc (by simp) _)⟩
  · have hf' : (f == f') = false := by simp [hf]
    have HF := Lib.hid hf
    clear hf
    go_enter Try.func19, Try.ntmps19
    go_wp2_with fail
    go_ret
    exact ⟨ret_bool (by simp [sameF, HF.out]), (((Below.refl _ _).alloc (Nat.le_refl _) _).alloc (by simp) _)⟩

theorem none_any (p : Nat) (sl : Value) (sd : Int) (w : World) (h : Blk w p 59 #[.bool true, sl, .int .i64 sd]) :
    Calls Try.prog 37 #[.pointer (some ⟨p, 0, none⟩)] w fun e w' => e = .returned (.bool false) ∧ w = w' := by
  obtain ⟨h0, _, _, _⟩ := blk3 h
  go_enter Try.func37, Try.ntmps37
  go_wp2_with fail
  go_ret
  exact ⟨rfl, rfl⟩
theorem none_nil (w : World)  :
    Calls Try.prog 37 #[.pointer none] w fun e w' => e = .returned (.bool true) ∧ w = w' := by
  go_enter Try.func37, Try.ntmps37
  go_wp2_with fail
  go_ret
  exact ⟨rfl, rfl⟩
theorem none_zero (p : Nat) (sl : Value) (sd : Int) (w : World) (h : Blk w p 59 #[.bool false, sl, .int .i64 sd]) :
    Calls Try.prog 37 #[.pointer (some ⟨p, 0, none⟩)] w fun e w' => e = .returned (.bool true) ∧ w = w' := by
  obtain ⟨h0, _, _, _⟩ := blk3 h
  go_enter Try.func37, Try.ntmps37
  go_wp2_with fail
  go_ret
  exact ⟨rfl, rfl⟩

theorem own_any (S : Nat → Prop) (A : Option Addr) (c : Nat) (f t : Int) (xs : List Int) (w : World) (h : Rd w S 1 (.slice A xs.length c) xs.length (bts xs)) (hs : ∀ i, S i → i < w.heap.size) (hsz : xs.length ≤ 140737488355328) :
    Calls Try.prog 39 #[.agg #[.int .i64 f, .int .i64 t, .slice A xs.length c]] w fun e w' => ∃ A c, e = .returned (.agg #[.int .i64 f, .int .i64 t, .slice A xs.length c]) ∧ Fresh w w' A c xs := by
  have H := Lib.hid h
  clear h
  have hmk := run_make_row' (P := Try.prog) 28 5 (.int .u8 0) 1 Try.underlying28 info5 rfl .i64 .i64 xs.length (by omega) (by omega)
  go_enter Try.func39, Try.ntmps39
  go_wp2_with (refine gate (some 11) rfl ?_; refine wpList_copy_rd rfl (.tmp 8) (.tmp 10) 28 28 rfl 5 Try.underlying28 (by kernel_rfl) (w.heap.size + 1 + 1) xs.length xs.length c A rfl rfl (madeCells #[.int .u8 0] xs.length) 5 (by simpa using Blk.new ((w.alloc _).alloc _) 5 _) (size_madeCells _ _) S (bts xs) (H.out.below (Ba (Ba (Ba (B0 w) _) _) _) hs) (bts_one xs) ?_; intro w2 HB2 HM2; obtain ⟨q0, q1, q2, z0, z1, z2⟩ := blk3 (Blk.kept (g := w.heap.size) (t := 30) ((Blk.new w 30 #[.int .i64 f, .int .i64 t, .slice A xs.length c]).alloc _ |>.alloc (.cells (madeCells #[.int .u8 0] xs.length) 5)) HM2 (by omega)); have HBd := Blk.kept (g := w.heap.size + 1) (t := 30) ((Blk.new1 w (.cells #[.int .i64 f, .int .i64 t, .slice A xs.length c] 30) 30 #[.int .i64 0, .int .i64 0, .slice none 0 0]).alloc _) HM2 (by omega); obtain ⟨r0, r1, r2, y0, y1, y2⟩ := blk3 HBd)
  obtain ⟨x0, x1, x2, _⟩ := blk3 ((HBd.far (p := ⟨w.heap.size, 2, none⟩) (by simp) (.slice (some ⟨w.heap.size + 1 + 1, 0, none⟩) xs.length xs.length)).set3 (.int .i64 f) (.int .i64 t) (.slice (some ⟨w.heap.size + 1 + 1, 0, none⟩) xs.length xs.length))
  refine bodyPost_ret (v := .agg #[.int .i64 f, .int .i64 t, .slice (some ⟨w.heap.size + 1 + 1, 0, none⟩) xs.length xs.length]) (by simp [results, Try.results39, go_sem, x0, x1, x2]) rfl ?_
  refine ⟨_, _, rfl, own_mod (T := fun k => k = w.heap.size ∨ k = w.heap.size + 1) (own_of_blk HB2 (by simp [bts_length]) (by simp only [maxLen]; omega) (base := w.heap.size) (by omega)) ?_ (by simp [Value.ownBlock]; omega) (Nat.le_refl _), ?_⟩
  · exact ((((Mod.refl _ _).setCell (.inl (.inl rfl)) _).setCell (.inl (.inr rfl)) _).setCell (.inl (.inr rfl)) _).setCell (.inl (.inr rfl)) _
  · exact Bs (Bs (Bs (Bs (Bm (Ba (Ba (Ba (B0 w) _) _) _) HM2 (by intro i hi; omega)) (by simp) _) (by simp) _) (by simp) _) (by simp) _
end Go.Proofs.Ytekedgokmmkplaa
