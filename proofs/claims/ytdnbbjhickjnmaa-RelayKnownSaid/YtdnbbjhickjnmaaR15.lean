/- The reference's relay (for RelayDeeds): what it is in memory; New, node, Check, Copy, Len. -/
import Derived.Test.YtdnbbjhickjnmaaR10
namespace Go.Proofs.Ytdnbbjhickjnmaa
open Go.RowKit
set_option maxRecDepth 20000
set_option linter.unusedVariables false
set_option linter.unusedSimpArgs false

/-- The reference's relay at block p: all its frames, as they came; S: all its blocks. -/
def RrAt (w : World) (S : Nat → Prop) (p : Nat) (ds : List Dg) : Prop :=
  S p ∧ (∀ i, S i → i < w.heap.size) ∧ ∃ (l : List Item) (sl : Value) (T : Nat → Prop), l.map Item.dg = ds ∧ Blk w p 83 #[sl] ∧ w.ownsRow 0 31 3 sl l.length (rowOf l) ∧
    (∀ k, sl.ownBlock = some k → S k ∧ ¬ T k) ∧ (∀ i, T i → S i ∧ i ≠ p) ∧ ∀ x ∈ l, x.ok w T
theorem RrAt.kept {w w' : World} {S U : Nat → Prop} {p : Nat} {ds : List Dg} (h : RrAt w S p ds) (hm : Mod U w w') (hd : ∀ i, S i → ¬ U i) : RrAt w' S p ds := by
  obtain ⟨h1, h2, l, sl, T, h3, h4, h5, h6, h7, h8⟩ := h
  exact ⟨h1, fun i hi => Nat.lt_of_lt_of_le (h2 i hi) hm.size, l, sl, T, h3, h4.kept hm (hd _ h1), own_mod h5 hm (fun k hk => hd _ (h6 k hk).1) (Nat.le_refl _), h6, h7, fun x hx => Item.ok_kept (h8 x hx) hm (fun i hi => hd _ (h7 i hi).1)⟩
theorem RrAt.below {w w' : World} {S : Nat → Prop} {p : Nat} {ds : List Dg} (h : RrAt w S p ds) (hb : Below w.heap.size w w') : RrAt w' S p ds :=
  h.kept (Mod.of_below (S := fun _ => False) hb) (fun _ _ h => h)

theorem refnew_any (w : World) : Calls Try.prog 15 #[] w fun e w' => e = .returned (.pointer (some ⟨w.heap.size, 0, none⟩)) ∧ Below w.heap.size w w' ∧ RrAt w' (fun k => k = w.heap.size) w.heap.size [] := by
  go_enter Try.func15, Try.ntmps15
  go_wp2
  go_ret
  exact ⟨by simp, Ba (B0 w) _, rfl, by simp, [], .slice none 0 0, fun _ => False, rfl, Blk.new w 83 _, World.ownsRow_nil _ _ _ _, by simp [Value.ownBlock], fun i h => h.elim, by simp⟩

theorem refnode_any (n : Int) (w : World) : Calls Try.prog 50 #[.int .i64 n] w fun e w' => e = .returned (.bool (nodeB n)) ∧ w = w' := by
  go_enter Try.func50, Try.ntmps50
  go_wp2
  all_goals go_ret
  all_goals refine ⟨ret_bool ?_, rfl⟩
  all_goals (rw [Bool.eq_iff_iff]; simp [nodeB]; try omega)

def cntF (ds : List Dg) (n : Int) : Nat := (ds.filter fun d => d.t == n).length
theorem cnt_take (ds : List Dg) (n : Int) (k : Nat) (hk : k < ds.length) : cntF (ds.take (k + 1)) n = cntF (ds.take k) n + (if ds[k].t == n then 1 else 0) := by
  unfold cntF
  rw [List.take_succ_eq_append_getElem hk, List.filter_append, List.length_append]
  congr 1
  simp only [List.filter_cons, List.filter_nil]
  split <;> rfl
theorem cnt_le (ds : List Dg) (n : Int) : cntF ds n ≤ ds.length := List.length_filter_le _ _

set_option maxHeartbeats 1000000 in
theorem reflen_any (S : Nat → Prop) (p : Nat) (ds : List Dg) (n : Int) (w : World) (h : RrAt w S p ds) (hmost : ds.length ≤ 4096) :
    Calls Try.prog 23 #[.pointer (some ⟨p, 0, none⟩), .int .i64 n] w fun e w' => e = .returned (.int .i64 (cntF ds n)) ∧ w = w' := by
  obtain ⟨h1, h2, l, sl, T, h3, h4, h5, h6, h7, h8⟩ := h
  obtain ⟨A, c, rfl⟩ := own_slice h5
  have hll : l.length = ds.length := by rw [← h3]; simp
  obtain ⟨q0, _⟩ := blk1 h4
  have HO := Lib.hid h5
  have H3 := Lib.hid h3
  clear h1 h2 h3 h4 h5 h6 h7 h8
  rw [hll] at q0 HO
  have hl0 : (0 : Int) ≤ (ds.length : Int) := by omega
  have hl1 : (ds.length : Int) ≤ 4096 := by omega
  clear hmost
  go_enter Try.func23, Try.ntmps23
  go_wp2
  go_loopw [5, 6] (fun o i wr => ∃ k : Nat, k ≤ ds.length ∧ o = .int .i64 (cntF (ds.take k) n) ∧ i = .int .i64 k ∧ w = wr) (fun _ i _ => ds.length - (intOf i).toNat)
  case atStart => exact ⟨0, Nat.zero_le _, rfl, rfl, rfl⟩
  case round =>
    obtain ⟨k, hk, rfl, rfl, rfl⟩ := hrel
    by_cases hlt : k < ds.length
    · have hkl : k < l.length := by omega
      obtain ⟨g, cc, hv, _⟩ := HO.out.form (by omega)
      injection hv with hv1 hv2 hv3
      subst hv1
      have hdk : ds[k].t = l[k].t := by
        have := H3.out
        subst this
        simp [Item.dg]
      have d1 : w.cell? ⟨g, k * 3 + 1, none⟩ = some (.int .i64 ds[k].t) := by
        rw [hdk]
        exact (HO.out.cellAt (k * 3 + 1) (by omega)).trans (rowOf_at l k hkl 1 (by omega))
      have hc := cnt_take ds n k hlt
      have hle : cntF (ds.take k) n ≤ 4096 := by have := cnt_le (ds.take k) n; simp at this; omega
      have hle' : ((cntF (ds.take k) n : Nat) : Int) ≤ 4096 := by omega
      have hge' : (0 : Int) ≤ ((cntF (ds.take k) n : Nat) : Int) := by omega
      have hlt' : (k : Int) < (ds.length : Int) := by omega
      have hk0 : (0 : Int) ≤ (k : Int) := by omega
      have HC := Lib.hid hc
      clear hv2 hv3 hdk hc
      generalize hcv : cntF (ds.take k) n = cv at hle' hge' hle
      generalize hdt : ds[k].t = dt at d1
      have HCV := Lib.hid (And.intro hcv hdt)
      clear hcv hdt hle
      cases hb : (dt == n)
      · go_wp2
        go_roundw
        case rel => exact ⟨k + 1, by omega, by rw [HC.out, HCV.out.1, HCV.out.2, hb]; rfl, by go_num, by first | rfl | trivial⟩
        case measure => simp [intOf]; omega
      · go_wp2
        go_roundw
        case rel => exact ⟨k + 1, by omega, by rw [HC.out, HCV.out.1, HCV.out.2, hb]; go_num, by go_num, by first | rfl | trivial⟩
        case measure => simp [intOf]; omega
    · obtain rfl : k = ds.length := by omega
      go_wp2
      go_ret
      refine ⟨?_, rfl⟩
      rw [List.take_length]
      rfl
end Go.Proofs.Ytdnbbjhickjnmaa
