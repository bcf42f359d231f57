/- Relays and paths that are none; what is no number. -/
import Derived.Test.YtdnbbjhickjnmaaV6
import Derived.Test.YtdnbbjhickjnmaaR10
namespace Go.Proofs.Ytdnbbjhickjnmaa
open Go.RowKit
set_option maxRecDepth 20000
set_option linter.unusedVariables false
set_option linter.unusedSimpArgs false

def zrel : Array Value := #[.bool false, .slice none 0 0, .slice none 0 0, .slice none 0 0, .slice none 0 0, .slice none 0 0, .slice none 0 0, .slice none 0 0, .slice none 0 0, .slice none 0 0]
def NilR (w : World) (v : Value) : Prop := v = .pointer none ∨ ∃ b, v = .pointer (some ⟨b, 0, none⟩) ∧ Blk w b 78 zrel
def NilQ (w : World) (v : Value) : Prop := v = .pointer none ∨ ∃ b, v = .pointer (some ⟨b, 0, none⟩) ∧ Blk w b 81 #[.slice none 0 0]
theorem NilR.below {w w' : World} {v : Value} (h : NilR w v) (hb : Below w.heap.size w w') : NilR w' v := by
  rcases h with h | ⟨b, h, hB⟩
  · exact .inl h
  · exact .inr ⟨b, h, hB.later hb⟩
theorem NilQ.below {w w' : World} {v : Value} (h : NilQ w v) (hb : Below w.heap.size w w') : NilQ w' v := by
  rcases h with h | ⟨b, h, hB⟩
  · exact .inl h
  · exact .inr ⟨b, h, hB.later hb⟩

theorem put_nil (v : Value) (f t : Int) (A : Option Addr) (n c : Nat) (w : World) (h : NilR w v) : Calls Try.prog 16 #[v, .agg #[.int .i64 f, .int .i64 t, .slice A n c]] w fun e w' => e = .returned (.int .i64 1) ∧ Below w.heap.size w w' := by
  rcases h with rfl | ⟨b, rfl, hB⟩
  · go_enter Try.func16, Try.ntmps16
    go_wp2
    go_ret
    exact ⟨rfl, Ba (B0 w) _⟩
  · have q0 : w.cell? ⟨b, 0, none⟩ = some (.bool false) := hB.cell 0
    have lb := hB.lt
    clear hB
    go_enter Try.func16, Try.ntmps16
    go_wp2
    go_ret
    exact ⟨rfl, Ba (B0 w) _⟩
theorem take_nil (v : Value) (n : Int) (w : World) (h : NilR w v) : Calls Try.prog 17 #[v, .int .i64 n] w fun e w' => e = .returned (.tuple #[.agg #[.int .i64 0, .int .i64 0, .slice none 0 0], .int .i64 1]) ∧ Below w.heap.size w w' := by
  obtain ⟨x0, x1, x2, _⟩ := blk3 ((Blk.new w 31 #[.int .i64 0, .int .i64 0, .slice none 0 0]).set3 (.int .i64 0) (.int .i64 0) (.slice none 0 0))
  rcases h with rfl | ⟨b, rfl, hB⟩
  · go_enter Try.func17, Try.ntmps17
    go_wp2
    refine bodyPost_ret (v := .tuple #[.agg #[.int .i64 0, .int .i64 0, .slice none 0 0], .int .i64 1]) (by simp [results, Try.results17, go_sem, x0, x1, x2]) rfl ⟨rfl, ?_⟩
    first | exact Bs (Bs (Bs (Ba (B0 w) _) (by simp) _) (by simp) _) (by simp) _ | exact Ba (B0 w) _
  · have q0 : w.cell? ⟨b, 0, none⟩ = some (.bool false) := hB.cell 0
    have lb := hB.lt
    clear hB
    go_enter Try.func17, Try.ntmps17
    go_wp2
    refine bodyPost_ret (v := .tuple #[.agg #[.int .i64 0, .int .i64 0, .slice none 0 0], .int .i64 1]) (by simp [results, Try.results17, go_sem, x0, x1, x2]) rfl ⟨rfl, ?_⟩
    first | exact Bs (Bs (Bs (Ba (B0 w) _) (by simp) _) (by simp) _) (by simp) _ | exact Ba (B0 w) _
theorem len_nil (v : Value) (w : World) (h : NilR w v) : Calls Try.prog 22 #[v, .int .i64 1] w fun e w' => e = .returned (.int .i64 0) ∧ w = w' := by
  rcases h with rfl | ⟨b, rfl, hB⟩
  · go_enter Try.func22, Try.ntmps22
    go_wp2_with fail
    go_ret
    exact ⟨rfl, rfl⟩
  · have q2 : w.cell? ⟨b, 2, none⟩ = some (.slice none 0 0) := hB.cell 2
    have lb := hB.lt
    clear hB
    have hN : nodeB 1 = true := by decide +kernel
    go_enter Try.func22, Try.ntmps22
    go_wp2_with (go_at_call 48; refine (node_any 1 _).mono ?_; rintro e w' ⟨rfl, rfl⟩; rw [hN])
    go_ret
    exact ⟨rfl, rfl⟩
theorem find_nil (v : Value) (n : Int) (w : World) (h : NilQ w v) : Calls Try.prog 52 #[v, .int .i64 n] w fun e w' => e = .returned (.tuple #[.pointer none, .int .i64 1]) ∧ w = w' := by
  rcases h with rfl | ⟨b, rfl, hB⟩
  · go_enter Try.func52, Try.ntmps52
    go_wp2
    go_ret2
    exact ⟨rfl, rfl⟩
  · obtain ⟨q0, z0⟩ := blk1 hB
    clear hB
    go_enter Try.func52, Try.ntmps52
    go_wp2
    go_ret2
    exact ⟨rfl, rfl⟩
theorem report_nil (v : Value) (n : Int) (t : Nat) (w : World) (h : NilQ w v) : Calls Try.prog 30 #[v, .int .i64 n, .float .f64 t] w fun e w' => e = .returned (.int .i64 1) ∧ w = w' := by
  have H := Lib.hid h
  clear h
  go_enter Try.func30, Try.ntmps30
  go_wp2_with fail
  refine (find_nil v n w H.out).mono ?_
  rintro e w' ⟨rfl, rfl⟩
  go_wp2_with fail
  go_ret
  exact ⟨rfl, rfl⟩
theorem lost_nil (v : Value) (n : Int) (w : World) (h : NilQ w v) : Calls Try.prog 29 #[v, .int .i64 n] w fun e w' => e = .returned (.int .i64 1) ∧ w = w' := by
  have H := Lib.hid h
  clear h
  go_enter Try.func29, Try.ntmps29
  go_wp2_with fail
  refine (find_nil v n w H.out).mono ?_
  rintro e w' ⟨rfl, rfl⟩
  go_wp2_with fail
  go_ret
  exact ⟨rfl, rfl⟩
theorem score_nil (v : Value) (n : Int) (w : World) (h : NilQ w v) : Calls Try.prog 32 #[v, .int .i64 n] w fun e w' => e = .returned (.float .f64 9218868437227405312) ∧ w = w' := by
  have H := Lib.hid h
  clear h
  go_enter Try.func32, Try.ntmps32
  go_wp2_with fail
  refine (find_nil v n w H.out).mono ?_
  rintro e w' ⟨rfl, rfl⟩
  go_wp2_with fail
  refine (inf_any w).mono ?_
  rintro e w' ⟨rfl, rfl⟩
  go_wp2_with fail
  go_ret
  exact ⟨rfl, rfl⟩
theorem best_nil (v : Value) (w : World) (h : NilQ w v) : Calls Try.prog 31 #[v] w fun e w' => e = .returned (.int .i64 0) ∧ Below w.heap.size w w' := by
  rcases h with rfl | ⟨b, rfl, hB⟩
  · go_enter Try.func31, Try.ntmps31
    go_wp2_with fail
    go_ret
    exact ⟨rfl, B0 w⟩
  · obtain ⟨q0, z0⟩ := blk1 hB
    clear hB
    go_enter Try.func31, Try.ntmps31
    go_wp2_with fail
    refine wp_loop_rounds 1 ?_
    rw [rounds_succ]
    go_wp2_with fail
    go_ret
    exact ⟨rfl, by repeat (first | exact B0 _ | apply Ba | apply Bd | apply BdN)⟩
theorem begin_low (w : World) : Calls Try.prog 28 #[.int .i64 (-1)] w fun e w' => e = .returned (.tuple #[.pointer none, .int .i64 2]) ∧ w = w' := by
  go_enter Try.func28, Try.ntmps28
  go_wp2_with fail
  go_ret2
  exact ⟨rfl, rfl⟩
theorem begin_high (w : World) : Calls Try.prog 28 #[.int .i64 4] w fun e w' => e = .returned (.tuple #[.pointer none, .int .i64 2]) ∧ w = w' := by
  go_enter Try.func28, Try.ntmps28
  go_wp2_with fail
  go_ret2
  exact ⟨rfl, rfl⟩

theorem read_nan (x : Nat) (h0 : 9218868437227405312 < x) (h1 : x < 9223372036854775808) : ∃ b f, Ieee.double.read x = .nan b f := by
  unfold Ieee.Format.read
  have h2 : x / 9223372036854775808 = 0 := Nat.div_eq_of_lt (by omega)
  have h3 : x % 9223372036854775808 = x := Nat.mod_eq_of_lt (by omega)
  simp only [d_sign, d_bin, d_inf, h2, h3]
  rw [if_neg (by omega), if_neg (by omega), if_neg (by omega)]
  exact ⟨_, _, rfl⟩
theorem read_nan2 (x : Nat) (h0 : 9218868437227405312 < x) (h1 : x < 9223372036854775808) : ∃ b f, Ieee.double.read (9223372036854775808 + x) = .nan b f := by
  unfold Ieee.Format.read
  have h2 : (9223372036854775808 + x) / 9223372036854775808 = 1 := by omega
  have h3 : (9223372036854775808 + x) % 9223372036854775808 = x := by omega
  simp only [d_sign, d_bin, d_inf, h2, h3]
  rw [if_neg (by omega), if_neg (by omega), if_neg (by omega)]
  exact ⟨_, _, rfl⟩
theorem tick_nan (x : Nat) (h : ∃ b f, Ieee.double.read x = .nan b f) : tickB x = false := by
  obtain ⟨b, f, h⟩ := h
  have e : FloatKind.f64.format.order x 0 = none := by
    show Ieee.double.order x 0 = none
    unfold Ieee.Format.order
    rw [h]
    rfl
  simp [tickB, e]
theorem sub_inf (w : World) : ∃ n : Nat, n < 18446744073709551616 ∧ tickB n = false ∧ (binOp .sub 52 (.float .f64 9218868437227405312) (.float .f64 9218868437227405312)).run Try.prog w = .ok (.float .f64 n) w.drew := by
  have e : FloatKind.f64.format.sub 9218868437227405312 9218868437227405312 = none := by decide +kernel
  refine ⟨(Question.nanBits .f64 9218868437227405312 9218868437227405312).cut (w.tape w.drawn (Question.nanBits .f64 9218868437227405312 9218868437227405312)), ?_, ?_, ?_⟩
  · simp only [Question.cut]; omega
  · refine tick_nan _ ?_
    simp only [Question.cut]
    generalize w.tape w.drawn (Question.nanBits .f64 9218868437227405312 9218868437227405312) = t
    rcases Nat.mod_two_eq_zero_or_one t with h | h
    · rw [h]
      refine (fun k => ?_) (read_nan (0 * 2 ^ 63 + 0x7ff0000000000000 + 1 + (t / 2) % (2 ^ 52 - 1)) (by omega) (by omega))
      exact k
    · rw [h]
      have k := read_nan2 (0x7ff0000000000000 + 1 + (t / 2) % (2 ^ 52 - 1)) (by omega) (by omega)
      have e : 9223372036854775808 + (0x7ff0000000000000 + 1 + (t / 2) % (2 ^ 52 - 1)) = 1 * 2 ^ 63 + 0x7ff0000000000000 + 1 + (t / 2) % (2 ^ 52 - 1) := by omega
      rw [← e]
      exact k
  · simp [binOp, Op.floatArith, e, Question.forced]

theorem made_zero (n : Nat) : madeCells #[.int .u8 0] n = (bts (List.replicate n 0)).toArray := by
  refine Array.ext (by simp [madeCells, bts]) (fun i h1 h2 => ?_)
  simp [madeCells, bts, Nat.mod_one]
theorem mk_zero (n : Nat) (l : Int) (hl : l = n) (h : n ≤ 140737488355328) (B : List Int) (hB : B = List.replicate n 0) (u : World) :
    (Instr.makeSlice 29 (.int .i64 l) (.int .i64 l)).run Try.prog u = .ok (.slice (some ⟨u.heap.size, 0, none⟩) B.length B.length) (u.alloc (.cells (bts B).toArray 5)) := by
  obtain ⟨i0, hi0, hz0, hz1, hz2⟩ := info_parts info5
  have hr := run_make (P := Try.prog) u 29 5 i0 _ Try.underlying29 hi0 hz0 .i64 .i64 l l (by omega) (Int.le_refl _) (by rw [hz2]; omega) (by omega)
  rw [hr, hz1, hl, hB]
  have e : (n : Int).toNat = n := by omega
  rw [e, Nat.mul_one, List.length_replicate]
  show Result.ok (Value.slice (some ⟨u.heap.size, 0, none⟩) n n) (u.alloc (.cells (madeCells #[.int .u8 0] n) 5)) = _
  rw [made_zero]

def kq (Z : List Int) : Nat → List Dg := rputQ q0 1 2 Z
theorem kq_put (Z : List Int) (h : Z.length = 4608) : rputE q0 1 2 Z.length = 0 := by rw [h]; decide +kernel
theorem kq_is (Z : List Int) (h : Z.length = 4608) : kq Z = upd q0 2 [⟨1, 2, Z⟩] := by
  unfold kq rputQ
  rw [if_pos (kq_put Z h)]
  rfl
theorem kq_long (Z Y : List Int) (hy : Y.length = 4609) : rputE (kq Z) 1 2 Y.length = 5 ∧ rputQ (kq Z) 1 2 Y = kq Z := by
  have e : rputE (kq Z) 1 2 Y.length = 5 := by rw [hy]; rfl
  exact ⟨e, by unfold rputQ; rw [if_neg (by rw [e]; decide)]⟩
theorem kq_len (Z : List Int) (h : Z.length = 4608) : lenF (kq Z) 2 = 1 ∧ lenF (kq Z) 0 = 0 ∧ lenF (kq Z) 9 = 0 := by
  rw [kq_is Z h]
  exact ⟨rfl, rfl, rfl⟩
theorem kq_takes (Z : List Int) (h : Z.length = 4608) : takesF (kq Z) 2 1 2 Z = true := by
  have e : takE (kq Z) 2 = 0 := by rw [kq_is Z h]; rfl
  have d : takD (kq Z) 2 = ⟨1, 2, Z⟩ := by unfold takD; rw [if_pos e, kq_is Z h]; rfl
  unfold takesF
  rw [if_pos e, d]
  exact same_self 1 2 Z
end Go.Proofs.Ytdnbbjhickjnmaa
