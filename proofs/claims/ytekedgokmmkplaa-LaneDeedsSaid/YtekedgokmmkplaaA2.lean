/- Walks: CopyBytes, own, Copy, Same. -/
import Derived.Test.YtekedgokmmkplaaA1
import Derived.StillTailTactics
import Derived.WalkSpells
import Derived.Laws.CopyOwn
import Derived.Deep.RegionHeld3
namespace Go.Proofs.Ytekedgokmmkplaa
open Go.RowKit
set_option linter.unusedVariables false
set_option linter.unusedSimpArgs false

theorem info5 : (Try.prog.info? 5).map (fun i => (i.zero, i.size, i.bytes)) = some (some (.int .u8 0), 1, 1) := by kernel_rfl

theorem bts_one (xs : List Int) : ∀ u ∈ bts xs, u.oneCell' = true := by
  intro u hu
  simp only [bts, List.mem_map] at hu
  obtain ⟨x, _, rfl⟩ := hu
  rfl

theorem copy_bytes (S : Nat → Prop) (v : Value) (xs : List Int) (w : World) (h : Rd w S 1 v xs.length (bts xs)) (hsz : xs.length ≤ 140737488355328) :
    Calls Try.prog 43 #[v] w fun e w' => ∃ A c, e = .returned (.slice A xs.length c) ∧ Fresh w w' A c xs := by
  obtain ⟨i0, hi0, hz0, hz1, hz2⟩ := info_parts info5
  go_enter Try.func43, Try.ntmps43
  go_wp2_with (at_builtin; refine wpList_append_rd _ rfl (.tmp 4) (.tmp 5) _ rfl w.heap.size 5 i0 _ 1 1 Try.underlying28 hi0 hz0 hz1 hz2 rfl (by omega) (.slice none 0 0) 0 [] rfl (World.ownsRow_nil _ _ _ _) S v xs.length (bts xs) rfl h (bts_one xs) (by simp only [maxLen]; omega) (by omega) (Nat.le_refl _) ?_; intro v1 w1 HA)
  go_ret
  obtain ⟨A, c, rfl⟩ := own_slice HA.own
  simp only [Nat.zero_add, List.nil_append] at HA
  exact ⟨A, c, by simp, HA.own, (Below.refl _ _).grown HA.grown (Nat.le_refl _) (by simp [Value.ownBlock])⟩


theorem refcopy_any (S : Nat → Prop) (v : Value) (f t : Int) (xs : List Int) (w : World) (h : Rd w S 1 v xs.length (bts xs)) (hs : ∀ i, S i → i < w.heap.size) (hsz : xs.length ≤ 140737488355328) :
    Calls Try.prog 32 #[.agg #[.int .i64 f, .int .i64 t, v]] w fun e w' => ∃ A c, e = .returned (.agg #[.int .i64 f, .int .i64 t, .slice A xs.length c]) ∧ Fresh w w' A c xs := by
  have h' := h
  obtain ⟨hl, A, c, rfl, hn, hm, hc⟩ := h
  clear hc
  go_enter Try.func32, Try.ntmps32
  go_wp2_with fail
  go_region_held3 (fun w' => w'.cell? ⟨w.heap.size, 0, none⟩ = some (.int .i64 f) ∧ w'.cell? ⟨w.heap.size, 1, none⟩ = some (.int .i64 t) ∧ w'.cell? ⟨w.heap.size, 2, none⟩ = some (.slice A xs.length c))
    (first
      | go_keep
      | (refine ⟨cell_later HF.kept (by assumption), cell_later HF.kept (by assumption), cell_later HF.kept (by assumption)⟩)
      | (go_split_ands
         refine ⟨cell_later HF.kept (by assumption), cell_later HF.kept (by assumption), cell_later HF.kept (by assumption)⟩))
    (first | (go_at_call 43; refine (copy_bytes S _ xs _ ?_ hsz).mono ?_; (exact h'.keep (fun p hp u hu => by simpa [World.cell?_alloc_lt, hs _ hp, Nat.lt_succ_of_lt (hs _ hp)] using hu)); rintro e w1 ⟨A', c', rfl, HF⟩; have HB := (Blk.new1 w _ 30 _).drew.later HF.kept; obtain ⟨q0, q1, q2, z0, z1, z2⟩ := blk3 HB))
  go_wp2
  obtain ⟨y0, y1, y2, _⟩ := blk3 (HB.set3 (.int .i64 f) (.int .i64 t) (.slice A' xs.length c'))
  refine bodyPost_ret (v := .agg #[.int .i64 f, .int .i64 t, .slice A' xs.length c']) (by simp [results, Try.results32, go_sem, y0, y1, y2]) rfl ?_
  exact ⟨A', c', rfl, HF.post ((((Below.refl _ _).alloc (Nat.le_refl _) _).alloc (by simp) _).drew) (((((Mod.refl _ _).setCell (.inl ⟨by simp, by simp⟩) _).setCell (.inl ⟨by simp, by simp⟩) _).setCell (.inl ⟨by simp, by simp⟩) _))⟩
end Go.Proofs.Ytekedgokmmkplaa
