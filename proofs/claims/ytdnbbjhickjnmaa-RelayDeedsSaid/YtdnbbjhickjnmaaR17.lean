/- The reference's relay: Put where there is room. -/
import Derived.Test.YtdnbbjhickjnmaaR16
namespace Go.Proofs.Ytdnbbjhickjnmaa
open Go.RowKit
set_option maxRecDepth 20000
set_option linter.unusedVariables false
set_option linter.unusedSimpArgs false

/-- What the reference's Put does where there is room. -/
def RPutOut (p : Nat) (f t : Int) (sl : Value) (n : Nat) (bs : List Int) (xs : List Value) (w : World) (e : Ending) (w' : World) : Prop :=
  e = .returned (.int .i64 0) ∧ ∃ A1 c1 v2 w1 w2 W, Below w.heap.size w W ∧ Fresh W w1 A1 c1 bs ∧ Appended (w1.alloc (.cells #[.int .i64 f, .int .i64 t, .slice A1 bs.length c1] 31)) 0 31 3 sl (n + 1) (xs ++ [.int .i64 f, .int .i64 t, .slice A1 bs.length c1]) v2 w2 ∧ w' = w2.setCell ⟨p, 0, none⟩ v2

set_option maxHeartbeats 2000000 in
theorem refput_ok (S : Nat → Prop) (p : Nat) (ds : List Dg) (f t : Int) (A : Option Addr) (c : Nat) (bs : List Int) (T : Nat → Prop) (w : World) (h : RrAt w S p ds) (hmost : ds.length ≤ 4095) (hr : Rd w T 1 (.slice A bs.length c) bs.length (bts bs)) (hT : ∀ i, T i → i < w.heap.size)
    (hc : chkE f t bs.length = 0) (hn : cntF ds t ≠ 16) (l : List Item) (As : Option Addr) (cs : Nat) (h3 : l.map Item.dg = ds) (h4 : Blk w p 83 #[.slice As l.length cs]) (h5 : w.ownsRow 0 31 3 (.slice As l.length cs) l.length (rowOf l)) :
    Calls Try.prog 21 #[.pointer (some ⟨p, 0, none⟩), .agg #[.int .i64 f, .int .i64 t, .slice A bs.length c]] w (RPutOut p f t (.slice As l.length cs) l.length bs (rowOf l) w) := by
  obtain ⟨i0, hi0, hz0, hz1, hz2⟩ := info_parts info31
  have H := Lib.hid h
  have hll : l.length = ds.length := by rw [← h3]; simp
  have hl4 : l.length ≤ 4095 := by omega
  have hbl := (chk_ok hc).2.2
  have HB := Lib.hid h4
  have HO := Lib.hid h5
  have HR := Lib.hid hr
  have HC := Lib.hid hc
  obtain ⟨q0, z0⟩ := blk1 h4
  have lp := HB.out.lt
  have hn1 : (((cntF ds t : Nat) : Int) == 16) = false := by rw [beq_eq_false_iff_ne]; omega
  clear h h3 h4 h5 hr hc hn hll
  go_enter Try.func21, Try.ntmps21
  go_wp2_with fail
  refine (refcheck_any f t A bs.length c _).mono ?_
  rintro e w1 ⟨rfl, hb1⟩
  rw [HC.out]
  have HBW := Lib.hid (Bt (Ba (B0 w) _) hb1)
  have hbx := (Blk.new w 31 #[.int .i64 f, .int .i64 t, .slice A bs.length c]).later hb1
  have lw1 : w.heap.size < w1.heap.size := hbx.lt
  obtain ⟨f0, f1, f2, _⟩ := blk3 hbx
  have HBX := Lib.hid hbx
  clear hb1 hbx
  go_wp2_with fail
  refine (reflen_any S p ds t _ (H.out.below HBW.out) (by omega)).mono ?_
  rintro e w' ⟨rfl, rfl⟩
  replace q0 : w1.cell? ⟨p, 0, none⟩ = some (.slice As l.length cs) := (HBW.out.cell lp).trans q0
  have HB1 := Lib.hid (HB.out.later HBW.out)
  have lp1 : p < w1.heap.size := HB1.out.lt
  have HO1 := Lib.hid (own_below HO.out HBW.out)
  clear z0
  go_wp2_with fail
  go_region_law (first
    | (go_simp; go_at_call 20; refine (refcopy_any T A c f t bs _ (HR.out.below (Bd HBW.out) hT) (fun i hi => by have := hT i hi; have := HBW.out.size; simp; omega) (by omega)).mono ?_; rintro e w2 ⟨A1, c1, rfl, HF⟩; have q0' : w2.cell? ⟨p, 0, none⟩ = some (.slice As l.length cs) := (HF.kept.cell (by simpa using lp1)).trans q0; have lp2 : p < w2.heap.size := Nat.lt_of_lt_of_le lp1 HF.kept.size; have HO2 := Lib.hid ((own_below HO1.out (Bt (Bd (B0 w1)) HF.kept)).alloc (.cells #[.int .i64 f, .int .i64 t, .slice A1 bs.length c1] 31)); have HN2 := Lib.hid (Rd.box w2 31 [.int .i64 f, .int .i64 t, .slice A1 bs.length c1] 3 rfl))
    | (refine step_append_rd _ rfl (.tmp 20) (.tmp 23) 75 rfl 0 31 i0 (.agg #[.int .i64 0, .int .i64 0, .slice none 0 0]) 3 40 Try.underlying75 hi0 hz0 hz1 hz2 rfl (by omega) (.slice As l.length cs) l.length (rowOf l) (by simp [Act.eval, Act.put]) HO2.out (fun k => k = w2.heap.size) (.slice (some ⟨w2.heap.size, 0, none⟩) 1 1) 1 [.int .i64 f, .int .i64 t, .slice A1 bs.length c1] (by simp [Act.eval, Act.put]) HN2.out (by simp [Value.oneCell']) (by simp only [maxLen]; omega) (by omega) (Nat.zero_le _) ?_; intro v2 w3 HA; obtain ⟨A2, c2, rfl⟩ := own_slice HA.own; have HBp := Blk.grown (Blk.alloc (HB1.out.later (Bt (Bd (B0 w1)) HF.kept)) _) HA.grown (own_ne_blk HO.out HB.out (show (31 : TypeId) ≠ 83 by decide)).symm; obtain ⟨p0, k0⟩ := blk1 HBp))
  all_goals
    go_wp2
    go_ret
    exact ⟨rfl, A1, c1, _, w2, w3, w1.drew, Bd HBW.out, HF, HA, rfl⟩
end Go.Proofs.Ytdnbbjhickjnmaa
