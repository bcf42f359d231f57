/- Walks: the reader: value, rest, New, Left, End. -/
import Derived.Test.YtnphnaggamfoiaaW4
namespace Go.Proofs.Ytnphnaggamfoiaa.Wr
open Go.RowKit
set_option linter.unusedVariables false
set_option maxRecDepth 20000
set_option linter.unusedSimpArgs false

theorem value_walk (c0 c1 c2 c3 c4 c5 c6 c7 : Int) (w : World) (h0 : 0 ≤ c0 ∧ c0 < 256) (h1 : 0 ≤ c1 ∧ c1 < 256) (h2 : 0 ≤ c2 ∧ c2 < 256) (h3 : 0 ≤ c3 ∧ c3 < 256) (h4 : 0 ≤ c4 ∧ c4 < 256) (h5 : 0 ≤ c5 ∧ c5 < 256) (h6 : 0 ≤ c6 ∧ c6 < 256) (h7 : 0 ≤ c7 ∧ c7 < 256) :
    Calls Try.prog 81 #[.agg #[.int .u8 c0, .int .u8 c1, .int .u8 c2, .int .u8 c3, .int .u8 c4, .int .u8 c5, .int .u8 c6, .int .u8 c7]] w fun e w' => e = .returned (.int .u64 (num [c0, c1, c2, c3, c4, c5, c6, c7])) ∧ Below w.heap.size w w' := by
  have i0 : ∀ w, (Instr.index 118 (.agg #[.int .u8 c0, .int .u8 c1, .int .u8 c2, .int .u8 c3, .int .u8 c4, .int .u8 c5, .int .u8 c6, .int .u8 c7]) (.int .i64 0)).run Try.prog w = .ok (.int .u8 c0) w := fun _ => by kernel_rfl
  have i1 : ∀ w, (Instr.index 118 (.agg #[.int .u8 c0, .int .u8 c1, .int .u8 c2, .int .u8 c3, .int .u8 c4, .int .u8 c5, .int .u8 c6, .int .u8 c7]) (.int .i64 1)).run Try.prog w = .ok (.int .u8 c1) w := fun _ => by kernel_rfl
  have i2 : ∀ w, (Instr.index 118 (.agg #[.int .u8 c0, .int .u8 c1, .int .u8 c2, .int .u8 c3, .int .u8 c4, .int .u8 c5, .int .u8 c6, .int .u8 c7]) (.int .i64 2)).run Try.prog w = .ok (.int .u8 c2) w := fun _ => by kernel_rfl
  have i3 : ∀ w, (Instr.index 118 (.agg #[.int .u8 c0, .int .u8 c1, .int .u8 c2, .int .u8 c3, .int .u8 c4, .int .u8 c5, .int .u8 c6, .int .u8 c7]) (.int .i64 3)).run Try.prog w = .ok (.int .u8 c3) w := fun _ => by kernel_rfl
  have i4 : ∀ w, (Instr.index 118 (.agg #[.int .u8 c0, .int .u8 c1, .int .u8 c2, .int .u8 c3, .int .u8 c4, .int .u8 c5, .int .u8 c6, .int .u8 c7]) (.int .i64 4)).run Try.prog w = .ok (.int .u8 c4) w := fun _ => by kernel_rfl
  have i5 : ∀ w, (Instr.index 118 (.agg #[.int .u8 c0, .int .u8 c1, .int .u8 c2, .int .u8 c3, .int .u8 c4, .int .u8 c5, .int .u8 c6, .int .u8 c7]) (.int .i64 5)).run Try.prog w = .ok (.int .u8 c5) w := fun _ => by kernel_rfl
  have i6 : ∀ w, (Instr.index 118 (.agg #[.int .u8 c0, .int .u8 c1, .int .u8 c2, .int .u8 c3, .int .u8 c4, .int .u8 c5, .int .u8 c6, .int .u8 c7]) (.int .i64 6)).run Try.prog w = .ok (.int .u8 c6) w := fun _ => by kernel_rfl
  have i7 : ∀ w, (Instr.index 118 (.agg #[.int .u8 c0, .int .u8 c1, .int .u8 c2, .int .u8 c3, .int .u8 c4, .int .u8 c5, .int .u8 c6, .int .u8 c7]) (.int .i64 7)).run Try.prog w = .ok (.int .u8 c7) w := fun _ => by kernel_rfl
  go_enter Try.func81, Try.ntmps81
  go_wp2
  go_rounds 9
  go_wp2
  go_ret
  refine ⟨ret_int ?_, Ba (B0 w) _⟩
  simp [num]

theorem value_any (l : List Int) (w : World) (hl : l.length = 8) (hb : Byt l) : Calls Try.prog 81 #[.agg (bts l).toArray] w fun e w' => e = .returned (.int .u64 (num l)) ∧ Below w.heap.size w w' := by
  match l, hl with
  | [c0, c1, c2, c3, c4, c5, c6, c7], _ => exact value_walk c0 c1 c2 c3 c4 c5 c6 c7 w (hb _ (by simp)) (hb _ (by simp)) (hb _ (by simp)) (hb _ (by simp)) (hb _ (by simp)) (hb _ (by simp)) (hb _ (by simp)) (hb _ (by simp))

/-- What a reader has left: its bytes. -/
def RdOf (w : World) (S : Nat → Prop) (p s : Nat) (A : Option Addr) (c : Nat) (pre ys : List Int) : Prop :=
  (∀ i, S i → i < w.heap.size) ∧ pre.length + ys.length ≤ 140737488355328 ∧ S p ∧ S s ∧ Blk w p 105 #[.pointer (some ⟨s, 0, none⟩)] ∧ Blk w s 96 #[.slice A (pre.length + ys.length) c, .int .i64 pre.length] ∧
    w.ownsRow 0 5 1 (.slice A (pre.length + ys.length) c) (pre.length + ys.length) (bts (pre ++ ys)) ∧ (∀ k, (Value.slice A (pre.length + ys.length) c).ownBlock = some k → S k)
def RdAt (w : World) (S : Nat → Prop) (p : Nat) (ys : List Int) : Prop := ∃ s A c pre, RdOf w S p s A c pre ys

theorem rd_tail {w : World} {S : Nat → Prop} {a : Addr} {c : Nat} (xs ys : List Int) (h : Rd w S 1 (.slice (some a) (xs.length + ys.length) c) (xs.length + ys.length) (bts (xs ++ ys))) (a' : Option Addr) (ha : a' = some (a.add xs.length) ∨ c = xs.length) :
    Rd w S 1 (.slice a' ys.length (c - xs.length)) ys.length (bts ys) := by
  have hc := h.cap
  refine ⟨by simp [bts], a', c - xs.length, rfl, by omega, by omega, fun hn => ?_⟩
  obtain ⟨g, o, he, hs, hj⟩ := h.some_ (by omega)
  injection he with he
  subst he
  rcases ha with rfl | he
  · refine ⟨g, o + xs.length, by rw [addr_add], hs, fun j u hu => ?_⟩
    have := hj (xs.length + j) u (by rw [bts_append, List.getElem?_append_right (by simp [bts])]; simpa [bts] using hu)
    rwa [← Nat.add_assoc] at this
  · omega

theorem rest_any (s : Nat) (A : Option Addr) (c : Nat) (pre ys : List Int) (w : World) (h5 : Blk w s 96 #[.slice A (pre.length + ys.length) c, .int .i64 pre.length]) (h6 : w.ownsRow 0 5 1 (.slice A (pre.length + ys.length) c) (pre.length + ys.length) (bts (pre ++ ys))) (hl : pre.length + ys.length ≤ 140737488355328) :
    Calls Try.prog 73 #[.pointer (some ⟨s, 0, none⟩)] w fun e w' => ∃ A' c', e = .returned (.slice A' ys.length c') ∧ Rd w (fun k => (Value.slice A (pre.length + ys.length) c).ownBlock = some k) 1 (.slice A' ys.length c') ys.length (bts ys) ∧ ∃ n, w' = w.drewN n := by
  obtain ⟨y0, y1, g0, g1⟩ := blk2 h5
  have hr := Rd.of_own h6
  have hc := hr.cap
  unfold maxLen at hc
  have HR := Lib.hid hr
  rcases A with _ | a
  · have h0 : pre.length + ys.length = 0 := by
      rcases Nat.eq_zero_or_pos (pre.length + ys.length) with h0 | h0
      · exact h0
      · obtain ⟨g, o, he, _⟩ := hr.some_ h0; cases he
    obtain rfl : pre = [] := List.eq_nil_of_length_eq_zero (by omega)
    obtain rfl : ys = [] := List.eq_nil_of_length_eq_zero (by simpa using h0)
    simp only [List.length_nil, Nat.add_zero] at y0 y1 hc
    clear h5 h6 hr h0 HR
    go_enter Try.func73, Try.ntmps73
    go_wp2_with fail
    go_quiet (fail)
    go_wp2_with fail
    all_goals
      go_ret
      exact ⟨_, _, rfl, ⟨by simp [bts], _, _, rfl, by simp, by simp only [maxLen]; omega, fun h => absurd h (by simp)⟩, nq, rfl⟩
  · clear h5 h6 hr
    obtain ⟨g, o, j⟩ := a
    go_enter Try.func73, Try.ntmps73
    go_wp2_with fail
    go_quiet (fail)
    go_wp2_with fail
    all_goals
      go_ret
      first
        | exact ⟨_, _, rfl, rd_tail pre ys HR.out _ (.inl rfl), nq, rfl⟩
        | (have hcp : c = pre.length := by omega
           subst hcp
           exact ⟨_, _, rfl, by simpa using rd_tail pre ys HR.out (some ⟨g, o, j⟩) (.inr rfl), nq, rfl⟩)

theorem rnew_any (T : Nat → Prop) (Ab : Option Addr) (cb : Nat) (xs : List Int) (w : World) (hr : Rd w T 1 (.slice Ab xs.length cb) xs.length (bts xs)) (hT : ∀ i, T i → i < w.heap.size) (hl : xs.length ≤ 140737488355328) :
    Calls Try.prog 47 #[.slice Ab xs.length cb] w fun e w' => ∃ p S, e = .returned (.pointer (some ⟨p, 0, none⟩)) ∧ RdAt w' S p xs ∧ Below w.heap.size w w' ∧ ∀ i, S i → w.heap.size ≤ i := by
  go_enter Try.func47, Try.ntmps47
  go_wp2_with (go_at_call 69; refine (clone_any T Ab cb xs w hr hT hl).mono ?_; rintro e w1 ⟨A', c', rfl, HF⟩)
  go_ret
  have hlt := own_lt HF.own
  have hge := own_ge HF.own
  refine ⟨w1.heap.size + 1, fun i => i = w1.heap.size ∨ i = w1.heap.size + 1 ∨ (Value.slice A' xs.length c').ownBlock = some i, by simp, ⟨w1.heap.size, A', c', [], fun i hi => ?_, by simpa using hl, .inr (.inl rfl), .inl rfl, Blk.new1 w1 _ _ _, ?_, ?_, fun k hk => .inr (.inr (by simpa using hk))⟩, Ba (Ba HF.kept _) _, fun i hi => ?_⟩
  · rcases hi with rfl | rfl | hi
    · simp; omega
    · simp
    · have := hlt i hi; simp; omega
  · simpa using (Blk.new w1 96 #[.slice A' xs.length c', .int .i64 0]).alloc _
  · simp only [List.length_nil, Nat.zero_add, List.nil_append]
    exact own_mod HF.own (Mod.of_below (S := fun _ => False) (Ba (Ba (B0 w1) _) _)) (fun _ _ h => h) (Nat.zero_le _)
  · have := HF.kept.size
    rcases hi with rfl | rfl | hi
    · exact this
    · omega
    · exact hge i hi

theorem RdOf.below {w w' : World} {S : Nat → Prop} {p s c : Nat} {A : Option Addr} {pre xs : List Int} (h : RdOf w S p s A c pre xs) (hb : Below w.heap.size w w') : RdOf w' S p s A c pre xs := by
  obtain ⟨h1, hl, h2, h3, h4, h5, h6, h7⟩ := h
  exact ⟨fun i hi => Nat.lt_of_lt_of_le (h1 i hi) hb.size, hl, h2, h3, h4.later hb, h5.later hb, own_below h6 hb, h7⟩
theorem RdOf.kept {w w' : World} {S T : Nat → Prop} {p s c : Nat} {A : Option Addr} {pre xs : List Int} (h : RdOf w S p s A c pre xs) (hm : Mod T w w') (hd : ∀ i, S i → ¬ T i) : RdOf w' S p s A c pre xs := by
  obtain ⟨h1, hl, h2, h3, h4, h5, h6, h7⟩ := h
  exact ⟨fun i hi => Nat.lt_of_lt_of_le (h1 i hi) hm.size, hl, h2, h3, h4.kept hm (hd _ h2), h5.kept hm (hd _ h3), own_mod h6 hm (fun k hk => hd _ (h7 k hk)) (Nat.le_refl _), h7⟩
theorem RdAt.below {w w' : World} {S : Nat → Prop} {p : Nat} {xs : List Int} (h : RdAt w S p xs) (hb : Below w.heap.size w w') : RdAt w' S p xs := by
  obtain ⟨s, A, c, pre, h⟩ := h
  exact ⟨s, A, c, pre, h.below hb⟩
theorem RdAt.kept {w w' : World} {S T : Nat → Prop} {p : Nat} {xs : List Int} (h : RdAt w S p xs) (hm : Mod T w w') (hd : ∀ i, S i → ¬ T i) : RdAt w' S p xs := by
  obtain ⟨s, A, c, pre, h⟩ := h
  exact ⟨s, A, c, pre, h.kept hm hd⟩

theorem left_any (S : Nat → Prop) (p : Nat) (ys : List Int) (w : World) (h : RdAt w S p ys) :
    Calls Try.prog 50 #[.pointer (some ⟨p, 0, none⟩)] w fun e w' => e = .returned (.int .i64 ys.length) ∧ ∃ n, w' = w.drewN n := by
  obtain ⟨s, A, c, pre, h1, hl, h2, h3, h4, h5, h6, h7⟩ := h
  obtain ⟨x0, f0⟩ := blk1 h4
  have H4 := Lib.hid h4
  have H5 := Lib.hid h5
  have H6 := Lib.hid h6
  clear h4 h5 h6 h7 h1 h2 h3
  go_enter Try.func50, Try.ntmps50
  go_wp2_with (first
    | (go_at_call 72; refine (rnone_any p s w H4.out).mono ?_; rintro e w' ⟨rfl, rfl⟩)
    | (go_at_call 73; refine (rest_any s A c pre ys w H5.out H6.out hl).mono ?_; rintro e w' ⟨A', c', rfl, HR, nq, rfl⟩; clear HR))
  go_ret
  exact ⟨rfl, nq, rfl⟩

def endE (ys : List Int) : Int := if ys = [] then 0 else 4
end Go.Proofs.Ytnphnaggamfoiaa.Wr
