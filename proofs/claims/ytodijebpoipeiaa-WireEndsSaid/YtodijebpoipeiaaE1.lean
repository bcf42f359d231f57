/- Writers and readers that are none. -/
import Derived.Test.YtodijebpoipeiaaW12
import Derived.Defers
namespace Go.Proofs.Ytodijebpoipeiaa
open Go.RowKit
set_option maxRecDepth 20000
set_option linter.unusedVariables false
set_option linter.unusedSimpArgs false

/-- A pointer that is nil, or leads to nothing. -/
def NilP (w : World) (t : TypeId) (v : Value) : Prop := v = .pointer none ∨ ∃ b, v = .pointer (some ⟨b, 0, none⟩) ∧ Blk w b t #[.pointer none]
theorem NilP.below {w w' : World} {t : TypeId} {v : Value} (h : NilP w t v) (hb : Below w.heap.size w w') : NilP w' t v := by
  rcases h with h | ⟨b, h, hB⟩
  · exact .inl h
  · exact .inr ⟨b, h, hB.later hb⟩

theorem wnone_nil (v : Value) (w : World) (h : NilP w 59 v) : Calls Try.prog 40 #[v] w fun e w' => e = .returned (.bool true) ∧ w = w' := by
  rcases h with rfl | ⟨b, rfl, hB⟩
  · go_enter Try.func40, Try.ntmps40
    go_wp2
    go_ret
    exact ⟨rfl, rfl⟩
  · obtain ⟨x0, f0⟩ := blk1 hB
    clear hB
    go_enter Try.func40, Try.ntmps40
    go_wp2
    go_ret
    exact ⟨rfl, rfl⟩
theorem rnone_nil (v : Value) (w : World) (h : NilP w 60 v) : Calls Try.prog 48 #[v] w fun e w' => e = .returned (.bool true) ∧ w = w' := by
  rcases h with rfl | ⟨b, rfl, hB⟩
  · go_enter Try.func48, Try.ntmps48
    go_wp2
    go_ret
    exact ⟨rfl, rfl⟩
  · obtain ⟨x0, f0⟩ := blk1 hB
    clear hB
    go_enter Try.func48, Try.ntmps48
    go_wp2
    go_ret
    exact ⟨rfl, rfl⟩
theorem put_nil (v : Value) (x n : Int) (w : World) (h : NilP w 59 v) : Calls Try.prog 15 #[v, .int .i64 x, .int .i64 n] w fun e w' => e = .returned (.int .i64 1) ∧ w = w' := by
  have H := Lib.hid h
  clear h
  go_enter Try.func15, Try.ntmps15
  go_wp2_with fail
  refine (wnone_nil v w H.out).mono ?_
  rintro e w' ⟨rfl, rfl⟩
  go_wp2_with fail
  go_ret
  exact ⟨rfl, rfl⟩
theorem wbytes_nil (v : Value) (A : Option Addr) (n c : Nat) (w : World) (h : NilP w 59 v) : Calls Try.prog 17 #[v, .slice A n c] w fun e w' => e = .returned (.int .i64 1) ∧ w = w' := by
  have H := Lib.hid h
  clear h
  go_enter Try.func17, Try.ntmps17
  go_wp2_with fail
  refine (wnone_nil v w H.out).mono ?_
  rintro e w' ⟨rfl, rfl⟩
  go_wp2_with fail
  go_ret
  exact ⟨rfl, rfl⟩
theorem octets_nil (v : Value) (A : Option Addr) (n c : Nat) (w : World) (h : NilP w 59 v) : Calls Try.prog 19 #[v, .slice A n c] w fun e w' => e = .returned (.int .i64 1) ∧ w = w' := by
  have H := Lib.hid h
  clear h
  go_enter Try.func19, Try.ntmps19
  go_wp2_with fail
  refine (wnone_nil v w H.out).mono ?_
  rintro e w' ⟨rfl, rfl⟩
  go_wp2_with fail
  go_ret
  exact ⟨rfl, rfl⟩
theorem out_nil (v : Value) (w : World) (h : NilP w 59 v) : Calls Try.prog 21 #[v] w fun e w' => e = .returned (.slice none 0 0) ∧ w = w' := by
  have H := Lib.hid h
  clear h
  go_enter Try.func21, Try.ntmps21
  go_wp2_with fail
  refine (wnone_nil v w H.out).mono ?_
  rintro e w' ⟨rfl, rfl⟩
  go_wp2_with fail
  go_ret
  exact ⟨rfl, rfl⟩
theorem get_nil (v : Value) (n : Int) (w : World) (h : NilP w 60 v) : Calls Try.prog 28 #[v, .int .i64 n] w fun e w' => e = .returned (.tuple #[.int .i64 0, .int .i64 1]) ∧ w = w' := by
  have H := Lib.hid h
  clear h
  go_enter Try.func28, Try.ntmps28
  go_wp2_with fail
  refine (rnone_nil v w H.out).mono ?_
  rintro e w' ⟨rfl, rfl⟩
  go_wp2_with fail
  go_ret2
  exact ⟨rfl, rfl⟩
theorem rbytes_nil (v : Value) (n : Int) (w : World) (h : NilP w 60 v) : Calls Try.prog 30 #[v, .int .i64 n] w fun e w' => e = .returned (.tuple #[.slice none 0 0, .int .i64 1]) ∧ w = w' := by
  have H := Lib.hid h
  clear h
  go_enter Try.func30, Try.ntmps30
  go_wp2_with fail
  refine (rnone_nil v w H.out).mono ?_
  rintro e w' ⟨rfl, rfl⟩
  go_wp2_with fail
  go_ret2
  exact ⟨rfl, rfl⟩
theorem left_nil (v : Value) (w : World) (h : NilP w 60 v) : Calls Try.prog 34 #[v] w fun e w' => e = .returned (.int .i64 0) ∧ w = w' := by
  have H := Lib.hid h
  clear h
  go_enter Try.func34, Try.ntmps34
  go_wp2_with fail
  refine (rnone_nil v w H.out).mono ?_
  rintro e w' ⟨rfl, rfl⟩
  go_wp2_with fail
  go_ret
  exact ⟨rfl, rfl⟩
theorem end_nil (v : Value) (w : World) (h : NilP w 60 v) : Calls Try.prog 36 #[v] w fun e w' => e = .returned (.int .i64 1) ∧ w = w' := by
  have H := Lib.hid h
  clear h
  go_enter Try.func36, Try.ntmps36
  go_wp2_with fail
  refine (rnone_nil v w H.out).mono ?_
  rintro e w' ⟨rfl, rfl⟩
  go_wp2_with fail
  go_ret
  exact ⟨rfl, rfl⟩
theorem roctets_nil (vp : Value) (n : Int) (w : World) (h : NilP w 60 vp) : Calls Try.prog 32 #[vp, .int .i64 n] w fun e w' => e = .returned (.tuple #[.slice none 0 0, .int .i64 1]) ∧ Below w.heap.size w w' := by
  have hmf : ∀ (fn : Fn) (first cap : Array Value) (w : World), (Instr.makeFunc fn first cap).run Try.prog w = .ok (.func fn first cap) w := fun _ _ _ _ => rfl
  obtain ⟨po, rfl⟩ : ∃ po, vp = .pointer po := by
    rcases h with h | ⟨b, h, _⟩
    · exact ⟨_, h⟩
    · exact ⟨_, h⟩
  have H := Lib.hid h
  clear h
  go_enter_defers Try.func32, Try.ntmps32
  go_wp2_with (first
    | (go_at_call 48; refine (rnone_nil _ _ (H.out.below (Ba (Ba (B0 w) _) _))).mono ?_; rintro e w' ⟨rfl, rfl⟩))
  simp [bodyPostD, Leaves, settle, results, Try.results32, go_sem]
  exact Ba (Ba (B0 w) _) _
end Go.Proofs.Ytodijebpoipeiaa
