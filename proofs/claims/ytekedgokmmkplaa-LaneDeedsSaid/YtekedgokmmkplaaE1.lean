/- Lanes that are none. -/
import Derived.Test.YtekedgokmmkplaaD1
namespace Go.Proofs.Ytekedgokmmkplaa
open Go.RowKit
set_option maxRecDepth 20000
set_option linter.unusedVariables false
set_option linter.unusedSimpArgs false

/-- v is no lane: nil, or one that New did not make. -/
def NoneV (w : World) (v : Value) : Prop := v = .pointer none ∨ ∃ p sl sd, v = .pointer (some ⟨p, 0, none⟩) ∧ Blk w p 59 #[.bool false, sl, .int .i64 sd]
theorem NoneV.later {w w' : World} {v : Value} (h : NoneV w v) (hb : Below w.heap.size w w') : NoneV w' v := by
  rcases h with h | ⟨p, sl, sd, h, hk⟩
  · exact .inl h
  · exact .inr ⟨p, sl, sd, h, hk.later hb⟩
theorem none_v (v : Value) (w : World) (h : NoneV w v) : Calls Try.prog 37 #[v] w fun e w' => e = .returned (.bool true) ∧ w = w' := by
  rcases h with rfl | ⟨p, sl, sd, rfl, hk⟩
  · exact none_nil w
  · exact none_zero p sl sd w hk
theorem nv_check (v : Value) (i : Int) (w : World) (h : NoneV w v) : Calls Try.prog 40 #[v, .int .i64 i] w fun e w' => e = .returned (.int .i64 1) ∧ w = w' := by
  have H := Lib.hid h
  clear h
  go_enter Try.func40, Try.ntmps40
  go_wp2_with (go_at_call 37; refine (none_v v _ H.out).mono ?_; rintro e w' ⟨rfl, rfl⟩)
  go_ret
  exact ⟨rfl, rfl⟩
theorem nv_see (v : Value) (i : Int) (w : World) (h : NoneV w v) : Calls Try.prog 17 #[v, .int .i64 i] w fun e w' => e = .returned (.tuple #[.agg #[.int .i64 0, .int .i64 0, .slice none 0 0], .int .i64 1]) ∧ Below w.heap.size w w' := by
  have H := Lib.hid h
  clear h
  go_enter Try.func17, Try.ntmps17
  go_wp2_with (go_at_call 40; refine (nv_check v i _ (H.out.later (Ba (B0 w) _))).mono ?_; rintro e w' ⟨rfl, rfl⟩)
  obtain ⟨x0, x1, x2, _⟩ := blk3 ((Blk.new w 30 #[.int .i64 0, .int .i64 0, .slice none 0 0]).set3 (.int .i64 0) (.int .i64 0) (.slice none 0 0))
  refine bodyPost_ret (v := .tuple #[.agg #[.int .i64 0, .int .i64 0, .slice none 0 0], .int .i64 1]) (by simp [results, Try.results17, go_sem, x0, x1, x2]) rfl ⟨rfl, ?_⟩
  first | exact Bs (Bs (Bs (Ba (B0 w) _) (by simp) _) (by simp) _) (by simp) _ | exact Ba (B0 w) _
theorem nv_take (v : Value) (i : Int) (w : World) (h : NoneV w v) : Calls Try.prog 31 #[v, .int .i64 i] w fun e w' => e = .returned (.tuple #[.agg #[.int .i64 0, .int .i64 0, .slice none 0 0], .int .i64 1]) ∧ Below w.heap.size w w' := by
  have H := Lib.hid h
  clear h
  go_enter Try.func31, Try.ntmps31
  go_wp2_with fail
  refine (nv_see v i _ (H.out.later (Ba (B0 w) _))).mono ?_
  rintro e w1 ⟨rfl, hb⟩
  have lN : w.heap.size < w1.heap.size := Nat.lt_of_lt_of_le (by simp) hb.size
  have hne3 : ¬ w1.heap.size = w.heap.size := by omega
  have HBr := (Blk.new w 30 #[.int .i64 0, .int .i64 0, .slice none 0 0]).later hb
  obtain ⟨r0, r1, r2, v0, v1, v2⟩ := blk3 HBr
  have HW := Lib.hid (Bt (Ba (B0 w) _) hb)
  clear hb
  go_wp2_with fail
  obtain ⟨x0, x1, x2, _⟩ := blk3 ((HBr.set3 (.int .i64 0) (.int .i64 0) (.slice none 0 0)).alloc (.cells #[.int .i64 0, .int .i64 0, .slice none 0 0] 30))
  refine bodyPost_ret (v := .tuple #[.agg #[.int .i64 0, .int .i64 0, .slice none 0 0], .int .i64 1]) (by simp [results, Try.results31, go_sem, x0, x1, x2]) rfl ⟨rfl, ?_⟩
  exact Ba (Bs (Bs (Bs HW.out (Nat.le_refl _) _) (Nat.le_refl _) _) (Nat.le_refl _) _) _
theorem nv_put (v d : Value) (w : World) (h : NoneV w v) (a b : Int) (A : Option Addr) (n c : Nat) : Calls Try.prog 16 #[v, .agg #[.int .i64 a, .int .i64 b, .slice A n c]] w fun e w' => e = .returned (.int .i64 1) ∧ Below w.heap.size w w' := by
  have H := Lib.hid h
  clear h
  go_enter Try.func16, Try.ntmps16
  go_wp2_with (go_at_call 37; refine (none_v v _ (H.out.later (Ba (B0 w) _))).mono ?_; rintro e w' ⟨rfl, rfl⟩)
  go_ret
  exact ⟨rfl, Ba (B0 w) _⟩
theorem nv_double (v : Value) (i : Int) (w : World) (h : NoneV w v) : Calls Try.prog 29 #[v, .int .i64 i] w fun e w' => e = .returned (.int .i64 1) ∧ Below w.heap.size w w' := by
  have H := Lib.hid h
  clear h
  go_enter Try.func29, Try.ntmps29
  go_wp2_with fail
  refine (nv_see v i _ H.out).mono ?_
  rintro e w1 ⟨rfl, hb⟩
  have HW := Lib.hid hb
  clear hb
  go_wp2_with fail
  go_ret
  exact ⟨rfl, Ba HW.out _⟩
theorem nv_cut (v : Value) (i : Int) (w : World) (h : NoneV w v) : Calls Try.prog 15 #[v, .int .i64 i] w fun e w' => e = .returned (.int .i64 1) ∧ w = w' := by
  have H := Lib.hid h
  clear h
  go_enter Try.func15, Try.ntmps15
  go_wp2_with (go_at_call 37; refine (none_v v _ H.out).mono ?_; rintro e w' ⟨rfl, rfl⟩)
  go_ret
  exact ⟨rfl, rfl⟩
theorem nv_len (v : Value) (w : World) (h : NoneV w v) : Calls Try.prog 25 #[v] w fun e w' => e = .returned (.int .i64 0) ∧ w = w' := by
  have H := Lib.hid h
  clear h
  go_enter Try.func25, Try.ntmps25
  go_wp2_with (go_at_call 37; refine (none_v v _ H.out).mono ?_; rintro e w' ⟨rfl, rfl⟩)
  go_ret
  exact ⟨rfl, rfl⟩
theorem nv_reaches (v : Value) (a b : Int) (w : World) (h : NoneV w v) : Calls Try.prog 20 #[v, .int .i64 a, .int .i64 b] w fun e w' => e = .returned (.bool false) ∧ Below w.heap.size w w' := by
  have H := Lib.hid h
  clear h
  go_enter Try.func20, Try.ntmps20
  go_wp2_with fail
  go_quiet ((go_at_call 37; exact quiet_left (none_v v _ (H.out.later (BdN (B0 w) _)))))
  go_wp2
  go_ret
  exact ⟨rfl, BdN (B0 w) _⟩
end Go.Proofs.Ytekedgokmmkplaa
