/- The relay's Put. -/
import Derived.Test.YtdnbbjhickjnmaaR5
namespace Go.Proofs.Ytdnbbjhickjnmaa
open Go.RowKit
set_option maxRecDepth 20000
set_option linter.unusedVariables false
set_option linter.unusedSimpArgs false

/-- What Put does where there is room. -/
def PutOut (p k : Nat) (f t : Int) (sl : Value) (n : Nat) (bs : List Int) (xs : List Value) (w : World) (e : Ending) (w' : World) : Prop :=
  e = .returned (.int .i64 0) ∧ ∃ A1 c1 v2 W w1 W1 w2, Below w.heap.size w W ∧ w.heap.size < W.heap.size ∧ Fresh W w1 A1 c1 bs ∧ Mod (fun k => k = w.heap.size) w1 W1 ∧
    Appended W1 0 31 3 sl (n + 1) (xs ++ [.int .i64 f, .int .i64 t, .slice A1 bs.length c1]) v2 w2 ∧ w' = w2.setCell ⟨p, 1 + k, none⟩ v2

set_option maxHeartbeats 1000000 in
theorem put_ok (p k : Nat) (f : Int) (A As : Option Addr) (n cs c : Nat) (bs : List Int) (T : Nat → Prop) (xs : List Value) (vs : Nat → Value) (w : World) (hb : Blk w p 78 (relCells vs)) (hk : k < 9) (hv : vs k = .slice As n cs) (ho : w.ownsRow 0 31 3 (.slice As n cs) n xs) (hn : n < 16)
    (hr : Rd w T 1 (.slice A bs.length c) bs.length (bts bs)) (hT : ∀ i, T i → i < w.heap.size) (hl : bs.length ≤ 4608) (hc : chkE f k bs.length = 0) :
    Calls Try.prog 16 #[.pointer (some ⟨p, 0, none⟩), .agg #[.int .i64 f, .int .i64 k, .slice A bs.length c]] w (PutOut p k f k (.slice As n cs) n bs xs w) := by
  obtain ⟨i0, hi0, hz0, hz1, hz2⟩ := info_parts info31
  have HB := Lib.hid hb
  have q0 := hb.cell 0
  have q1 := (hb.cell (1 + k)).trans (relCells_at vs k hk)
  have z1 := hb.frozen (1 + k)
  have q0' : w.cell? ⟨p, 0, none⟩ = some (.bool true) := q0
  rw [hv] at q1
  clear hb q0
  have HV := Lib.hid hv
  clear hv
  have HO := Lib.hid ho
  have HR := Lib.hid hr
  clear ho hr
  have lp := HB.out.lt
  have hn1 : ((n : Int) == 16) = false := by rw [beq_eq_false_iff_ne]; omega
  have HC := Lib.hid hc
  clear hc
  have k0 : (0 : Int) ≤ (k : Int) := by omega
  have k1 : (k : Int) < 9 := by omega
  go_enter Try.func16, Try.ntmps16
  go_wp2_with fail
  refine (check_any f k A bs.length c _).mono ?_
  rintro e w1 ⟨rfl, hb1⟩
  rw [HC.out]
  have HBW := Lib.hid (Bt (Ba (B0 w) _) hb1)
  have q1' : w1.cell? ⟨p, 1 + k, none⟩ = some (.slice As n cs) := (HBW.out.cell lp).trans q1
  have HFB := Lib.hid ((Blk.new w 31 #[.int .i64 f, .int .i64 k, .slice A bs.length c]).later hb1)
  obtain ⟨f0, f1, f2, g0, g1, g2⟩ := blk3 HFB.out
  clear hb1 q1 q0' z1
  go_wp2_with fail
  go_quiet (fail)
  go_wp2_with fail
  refine (clone_any T A c bs _ (HR.out.below (BdN HBW.out nq) hT) (fun i hi => by have := hT i hi; have := HBW.out.size; simp; omega) (by omega)).mono ?_
  rintro e w2 ⟨A1, c1, rfl, HF⟩
  have HW2 := Lib.hid (Bt (BdN HBW.out nq) HF.kept)
  clear f0 f1 f2 g0 g1 g2 q1'
  have HFB2 := (HFB.out.drewN nq).later HF.kept
  obtain ⟨f0, f1, f2, g0, g1, g2⟩ := blk3 HFB2
  go_wp2_with fail
  obtain ⟨W1, hW1⟩ : ∃ W1, W1 = w2.setCell ⟨w.heap.size, 2, none⟩ (.slice A1 bs.length c1) := ⟨_, rfl⟩
  rw [← hW1]
  have hM1 : Mod (fun k => k = w.heap.size) w2 W1 := by rw [hW1]; exact (Mod.refl (fun k => k = w.heap.size) w2).setCell (.inl rfl) _
  have HBW1 := Lib.hid (show Below w.heap.size w W1 from Bm HW2.out hM1 (fun i hi => by omega))
  have hFB3 : Blk W1 w.heap.size 31 #[.int .i64 f, .int .i64 k, .slice A1 bs.length c1] := by rw [hW1]; exact HFB2.set_ 2 _
  clear f0 f1 f2 g0 g1 g2 HFB2
  obtain ⟨f0, f1, f2, g0, g1, g2⟩ := blk3 hFB3
  have HBp := Lib.hid (HB.out.later HBW1.out)
  have q1 : W1.cell? ⟨p, 1 + k, none⟩ = some (.slice As n cs) := (HBp.out.cell (1 + k)).trans (by rw [relCells_at vs k hk, HV.out])
  have lp1 : p < W1.heap.size := HBp.out.lt
  have lw1 : w.heap.size < W1.heap.size := hFB3.lt
  have HF3 := Lib.hid hFB3
  have hone : some w.heap.size ≠ (Value.slice As n cs).ownBlock := fun h => by have := own_lt HO.out _ h.symm; omega
  replace hone := Lib.hid hone
  have HM1 := Lib.hid hM1
  have HFF := Lib.hid HF
  clear hW1 hM1 hFB3 HF
  go_region_law (refine step_append_rd _ rfl (.tmp 42) (.tmp 44) 75 rfl 0 31 i0 (.agg #[.int .i64 0, .int .i64 0, .slice none 0 0]) 3 40 Try.underlying75 hi0 hz0 hz1 hz2 rfl (by omega) (.slice As n cs) n xs (by simp [Act.eval, Act.put]) (own_below HO.out (Ba (Bd HBW1.out) _)) (fun k => k = W1.heap.size) (.slice (some ⟨W1.heap.size, 0, none⟩) 1 1) 1 [.int .i64 f, .int .i64 k, .slice A1 bs.length c1] (by simp [Act.eval, Act.put]) (Rd.box W1.drew 31 [.int .i64 f, .int .i64 k, .slice A1 bs.length c1] 3 rfl) (by simp [Value.oneCell']) (by simp only [maxLen]; omega) (by omega) (Nat.zero_le _) ?_; intro v2 w3 HA; obtain ⟨A2, c2, rfl⟩ := own_slice HA.own; have HBp3 := Blk.grown (Blk.alloc (Blk.drew HBp.out) _) HA.grown (own_ne_blk HO.out HB.out (show (31 : TypeId) ≠ 78 by decide)).symm; have q3 := (HBp3.cell (1 + k)).trans (relCells_at vs k hk); have z3 := HBp3.frozen (1 + k); obtain ⟨f3, f4, f5, g3, g4, g5⟩ := blk3 (Blk.grown (Blk.alloc (Blk.drew HF3.out) _) HA.grown hone.out))
  all_goals
    go_wp2
    go_ret
    exact ⟨rfl, A1, c1, _, w1.drewN nq, w2, _, w3, BdN HBW.out nq, HFB.out.lt, HFF.out, HM1.out.drew.alloc _, HA, rfl⟩
end Go.Proofs.Ytdnbbjhickjnmaa
