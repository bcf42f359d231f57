/- The reference's reader: New, Left, End. -/
import Derived.Test.YtdnbbjhickjnmaaW11
namespace Go.Proofs.Ytdnbbjhickjnmaa.Wr
open Go.RowKit
set_option linter.unusedVariables false
set_option maxRecDepth 20000
set_option linter.unusedSimpArgs false

/-- What a reader of the reference has left. -/
def RfAt (w : World) (S : Nat → Prop) (p : Nat) (ys : List Int) : Prop :=
  (∀ i, S i → i < w.heap.size) ∧ ∃ A c pre, pre.length + ys.length ≤ 140737488355328 ∧ S p ∧ Blk w p 133 #[.slice A (pre.length + ys.length) c, .int .i64 pre.length] ∧
    w.ownsRow 0 5 1 (.slice A (pre.length + ys.length) c) (pre.length + ys.length) (bts (pre ++ ys)) ∧ (∀ k, (Value.slice A (pre.length + ys.length) c).ownBlock = some k → S k)

theorem RfAt.below {w w' : World} {S : Nat → Prop} {p : Nat} {xs : List Int} (h : RfAt w S p xs) (hb : Below w.heap.size w w') : RfAt w' S p xs := by
  obtain ⟨h1, A, c, pre, hl, h2, h4, h6, h7⟩ := h
  exact ⟨fun i hi => Nat.lt_of_lt_of_le (h1 i hi) hb.size, A, c, pre, hl, h2, h4.later hb, own_below h6 hb, h7⟩
theorem RfAt.kept {w w' : World} {S T : Nat → Prop} {p : Nat} {xs : List Int} (h : RfAt w S p xs) (hm : Mod T w w') (hd : ∀ i, S i → ¬ T i) : RfAt w' S p xs := by
  obtain ⟨h1, A, c, pre, hl, h2, h4, h6, h7⟩ := h
  exact ⟨fun i hi => Nat.lt_of_lt_of_le (h1 i hi) hm.size, A, c, pre, hl, h2, h4.kept hm (hd _ h2), own_mod h6 hm (fun k hk => hd _ (h7 k hk)) (Nat.le_refl _), h7⟩

theorem unew_any (T : Nat → Prop) (Ab : Option Addr) (cb : Nat) (xs : List Int) (w : World) (hr : Rd w T 1 (.slice Ab xs.length cb) xs.length (bts xs)) (hT : ∀ i, T i → i < w.heap.size) (hl : xs.length ≤ 140737488355328) :
    Calls Try.prog 66 #[.slice Ab xs.length cb] w fun e w' => ∃ p S, e = .returned (.pointer (some ⟨p, 0, none⟩)) ∧ RfAt w' S p xs ∧ Below w.heap.size w w' ∧ ∀ i, S i → w.heap.size ≤ i := by
  obtain ⟨i0, hi0, hz0, hz1, hz2⟩ := info_parts info5
  go_enter Try.func66, Try.ntmps66
  go_wp2_with (at_builtin; refine wpList_append_rd _ rfl (.const (.slice none 0 0)) (.tmp 3) _ rfl w.heap.size 5 i0 _ 1 1 Try.underlying29 hi0 hz0 hz1 hz2 rfl (by omega) (.slice none 0 0) 0 [] rfl (World.ownsRow_nil _ _ _ _) T (.slice Ab xs.length cb) xs.length (bts xs) rfl hr (bts_one xs) (by simp only [maxLen]; omega) (by omega) (Nat.le_refl _) ?_; intro v1 w1 HA; obtain ⟨A', c', rfl⟩ := own_slice HA.own)
  go_ret
  simp only [Nat.zero_add, List.nil_append] at HA
  have hk : Below w.heap.size w w1 := (B0 w).grown HA.grown (Nat.le_refl _) (by simp [Value.ownBlock])
  have hlt := own_lt HA.own
  have hge := own_ge HA.own
  refine ⟨w1.heap.size, fun i => i = w1.heap.size ∨ (Value.slice A' xs.length c').ownBlock = some i, by simp, ⟨fun i hi => ?_, A', c', [], by simpa using hl, .inl rfl, ?_, ?_, fun k hk => .inr (by simpa using hk)⟩, Ba hk _, fun i hi => ?_⟩
  · rcases hi with rfl | hi
    · simp
    · have := hlt i hi; simp; omega
  · simpa using Blk.new w1 133 #[.slice A' xs.length c', .int .i64 0]
  · simp only [List.length_nil, Nat.zero_add, List.nil_append]
    exact own_mod HA.own (Mod.of_below (S := fun _ => False) (Ba (B0 w1) _)) (fun _ _ h => h) (Nat.zero_le _)
  · rcases hi with rfl | hi
    · exact hk.size
    · exact hge i hi
end Go.Proofs.Ytdnbbjhickjnmaa.Wr
