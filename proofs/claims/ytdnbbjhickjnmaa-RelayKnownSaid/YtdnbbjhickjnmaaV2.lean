/- The relay's Unpack. -/
import Derived.Test.YtdnbbjhickjnmaaV1
namespace Go.Proofs.Ytdnbbjhickjnmaa
open Go.RowKit
set_option maxRecDepth 20000
set_option linter.unusedVariables false
set_option linter.unusedSimpArgs false

theorem get_one (x : Int) (ys : List Int) (hb : Byt (x :: ys)) : Wr.getE (x :: ys) 1 = 0 ∧ Wr.getV (x :: ys) 1 = x ∧ Wr.getL (x :: ys) 1 = ys := by
  have h0 := hb x (by simp)
  have hn : Wr.num ((x :: ys).take (1 : Int).toNat) = x := by simp [Wr.num]
  have he : Wr.getE (x :: ys) 1 = 0 := by unfold Wr.getE; rw [hn, if_neg (by omega), if_neg (by simp only [List.length_cons]; omega), if_neg (by omega)]
  refine ⟨he, ?_, ?_⟩
  · unfold Wr.getV; rw [if_pos he, hn]
  · unfold Wr.getL; rw [if_pos he]; rfl
theorem get_none : Wr.getE [] 1 = 3 ∧ Wr.getV [] 1 = 0 ∧ Wr.getL [] 1 = [] := by decide +kernel

/-- What Unpack answers: a frame, its bytes a row of its own. -/
def UnDid (ys : List Int) (w : World) (e : Ending) (w' : World) : Prop :=
  ∃ A c, e = .returned (.tuple #[.agg #[.int .i64 (unF ys), .int .i64 (unT ys), .slice A (unB ys).length c], .int .i64 (unE ys)]) ∧ Fresh w w' A c (unB ys)
theorem UnDid.bad {ys : List Int} {w w' : World} {E : Int} (h : unE ys = E) (hE : E ≠ 0) (hb : Below w.heap.size w w') : UnDid ys w (.returned (.tuple #[.agg #[.int .i64 0, .int .i64 0, .slice none 0 0], .int .i64 E])) w' := by
  subst h
  have h1 : unF ys = 0 := by unfold unF; rw [if_neg hE]
  have h2 : unT ys = 0 := by unfold unT; rw [if_neg hE]
  have h3 : unB ys = [] := by unfold unB; rw [if_neg hE]
  refine ⟨none, 0, by rw [h1, h2, h3]; rfl, ?_, hb⟩
  rw [h3]; exact World.ownsRow_nil _ _ _ _

set_option maxHeartbeats 1000000 in
theorem un_0 (T : Nat → Prop) (A : Option Addr) (c : Nat) (w : World) (hr : Rd w T 1 (.slice A ([] : List Int).length c) ([] : List Int).length (bts [])) (hT : ∀ i, T i → i < w.heap.size) :
    Calls Try.prog 43 #[.slice A ([] : List Int).length c] w (UnDid [] w) := by
  have HR := Lib.hid hr
  have HG := Lib.hid get_none
  clear hr
  go_enter Try.func43, Try.ntmps43
  go_wp2_with fail
  refine (Wr.rnew_any T A c _ _ (HR.out.below (Ba (B0 w) _) hT) (fun i hi => Nat.lt_of_lt_of_le (hT i hi) (by simp)) (by simp)).mono ?_
  rintro e w1 ⟨r, S, rfl, hR, hb1, hS1⟩
  have hSw : ∀ i, S i → w.heap.size + 1 ≤ i := fun i hi => by have := hS1 i hi; simpa using this
  have HS := Lib.hid (And.intro hSw (Wr.RdAt.lt hR))
  have BR1 := (Blk.new w 31 #[.int .i64 0, .int .i64 0, .slice none 0 0]).later hb1
  have hw1 := Bt (Ba (B0 w) (.cells #[.int .i64 0, .int .i64 0, .slice none 0 0] 31)) hb1
  have BR := Lib.hid (BR1.below (Ba (Ba (B0 w1) (.cells #[.int .i64 0, .int .i64 0, .slice none 0 0] 31)) (.cells #[.pointer (some ⟨w1.heap.size, 0, none⟩), .pointer (some ⟨w1.heap.size, 1, none⟩)] 104)) BR1.lt)
  have BF := Lib.hid ((Blk.new w1 31 #[.int .i64 0, .int .i64 0, .slice none 0 0]).alloc (.cells #[.pointer (some ⟨w1.heap.size, 0, none⟩), .pointer (some ⟨w1.heap.size, 1, none⟩)] 104))
  have BP := Lib.hid (Blk.new1 w1 (.cells #[.int .i64 0, .int .i64 0, .slice none 0 0] 31) 104 #[.pointer (some ⟨w1.heap.size, 0, none⟩), .pointer (some ⟨w1.heap.size, 1, none⟩)])
  have HRR := Lib.hid (hR.below (Ba (Ba (B0 w1) (.cells #[.int .i64 0, .int .i64 0, .slice none 0 0] 31)) (.cells #[.pointer (some ⟨w1.heap.size, 0, none⟩), .pointer (some ⟨w1.heap.size, 1, none⟩)] 104)))
  have HW1 := Lib.hid (Ba (Ba hw1 (.cells #[.int .i64 0, .int .i64 0, .slice none 0 0] 31)) (.cells #[.pointer (some ⟨w1.heap.size, 0, none⟩), .pointer (some ⟨w1.heap.size, 1, none⟩)] 104))
  obtain ⟨x0, x1, z0, z1⟩ := blk2 BP.out
  clear hS1 hb1 hw1 BR1 hR hSw
  go_wp2_with fail
  refine wp_loop_rounds 3 ?_
  rw [rounds_succ]
  go_wp2_with fail
  refine (Wr.get_any S r _ 1 _ HRR.out (by intro x hx; simp at hx)).mono ?_
  rintro e w2 ⟨rfl, hm, hr2⟩
  rw [HG.out.2.1, HG.out.1]
  rw [HG.out.2.2] at hr2
  have HRR2 := Lib.hid hr2
  have HM2 := Lib.hid hm
  clear hm hr2
  have BR2 := BR.out.kept HM2.out (fun h => by have := HS.out.1 _ h; omega)
  have hw2 := Bm HW1.out HM2.out (fun i hi => Nat.le_of_succ_le (HS.out.1 i hi))
  have HB2 := Lib.hid BR2
  have lp := BR2.lt
  obtain ⟨y0, y1, y2, v0, v1, v2⟩ := blk3 BR2
  replace hw2 := Lib.hid hw2
  clear BR2 x0 x1 z0 z1
  go_wp2_with fail
  obtain ⟨x0, x1, x2, _⟩ := blk3 (HB2.out.set3 (.int .i64 0) (.int .i64 0) (.slice none 0 0))
  refine bodyPost_ret (v := .tuple #[.agg #[.int .i64 0, .int .i64 0, .slice none 0 0], .int .i64 3]) (by simp [results, Try.results43, go_sem, x0, x1, x2]) rfl ?_
  exact UnDid.bad (by rfl) (by decide) (Bs (Bs (Bs hw2.out (by simp) _) (by simp) _) (by simp) _)
set_option maxHeartbeats 1000000 in
theorem un_1 (T : Nat → Prop) (A : Option Addr) (c : Nat) (f : Int) (w : World) (hr : Rd w T 1 (.slice A [f].length c) [f].length (bts [f])) (hT : ∀ i, T i → i < w.heap.size) (hb : Byt [f]) :
    Calls Try.prog 43 #[.slice A [f].length c] w (UnDid [f] w) := by
  have HBY := Lib.hid hb
  have HG := Lib.hid (get_one f [] hb)
  clear hb
  have HR := Lib.hid hr
  have HG2 := Lib.hid get_none
  clear hr
  go_enter Try.func43, Try.ntmps43
  go_wp2_with fail
  refine (Wr.rnew_any T A c _ _ (HR.out.below (Ba (B0 w) _) hT) (fun i hi => Nat.lt_of_lt_of_le (hT i hi) (by simp)) (by simp)).mono ?_
  rintro e w1 ⟨r, S, rfl, hR, hb1, hS1⟩
  have hSw : ∀ i, S i → w.heap.size + 1 ≤ i := fun i hi => by have := hS1 i hi; simpa using this
  have HS := Lib.hid (And.intro hSw (Wr.RdAt.lt hR))
  have BR1 := (Blk.new w 31 #[.int .i64 0, .int .i64 0, .slice none 0 0]).later hb1
  have hw1 := Bt (Ba (B0 w) (.cells #[.int .i64 0, .int .i64 0, .slice none 0 0] 31)) hb1
  have BR := Lib.hid (BR1.below (Ba (Ba (B0 w1) (.cells #[.int .i64 0, .int .i64 0, .slice none 0 0] 31)) (.cells #[.pointer (some ⟨w1.heap.size, 0, none⟩), .pointer (some ⟨w1.heap.size, 1, none⟩)] 104)) BR1.lt)
  have BF := Lib.hid ((Blk.new w1 31 #[.int .i64 0, .int .i64 0, .slice none 0 0]).alloc (.cells #[.pointer (some ⟨w1.heap.size, 0, none⟩), .pointer (some ⟨w1.heap.size, 1, none⟩)] 104))
  have BP := Lib.hid (Blk.new1 w1 (.cells #[.int .i64 0, .int .i64 0, .slice none 0 0] 31) 104 #[.pointer (some ⟨w1.heap.size, 0, none⟩), .pointer (some ⟨w1.heap.size, 1, none⟩)])
  have HRR := Lib.hid (hR.below (Ba (Ba (B0 w1) (.cells #[.int .i64 0, .int .i64 0, .slice none 0 0] 31)) (.cells #[.pointer (some ⟨w1.heap.size, 0, none⟩), .pointer (some ⟨w1.heap.size, 1, none⟩)] 104)))
  have HW1 := Lib.hid (Ba (Ba hw1 (.cells #[.int .i64 0, .int .i64 0, .slice none 0 0] 31)) (.cells #[.pointer (some ⟨w1.heap.size, 0, none⟩), .pointer (some ⟨w1.heap.size, 1, none⟩)] 104))
  obtain ⟨x0, x1, z0, z1⟩ := blk2 BP.out
  have HW0 := Lib.hid (Nat.lt_of_lt_of_le (Nat.lt_succ_self _) (by simpa using hb1.size) : w.heap.size < w1.heap.size)
  clear hS1 hb1 hw1 BR1 hR hSw
  go_wp2_with fail
  refine wp_loop_rounds 3 ?_
  rw [rounds_succ]
  go_wp2_with fail
  refine (Wr.get_any S r _ 1 _ HRR.out (by exact HBY.out)).mono ?_
  rintro e w2 ⟨rfl, hm, hr2⟩
  rw [HG.out.2.1, HG.out.1]
  rw [HG.out.2.2] at hr2
  have HRR2 := Lib.hid hr2
  have HM2 := Lib.hid hm
  clear hm hr2
  obtain ⟨u0, u1, u2, t0, t1, t2⟩ := blk3 (BF.out.kept HM2.out (fun h => by have := HS.out.2 _ h; omega))
  have BF2 := Lib.hid (BF.out.kept HM2.out (fun h => by have := HS.out.2 _ h; omega))
  have BR2 := Lib.hid (BR.out.kept HM2.out (fun h => by have := HS.out.1 _ h; omega))
  have BP2 := Lib.hid (BP.out.kept HM2.out (fun h => by have := HS.out.2 _ h; omega))
  have HW2 := Lib.hid (Bm HW1.out HM2.out (fun i hi => Nat.le_of_succ_le (HS.out.1 i hi)))
  clear x0 x1 z0 z1
  obtain ⟨x0, x1, z0, z1⟩ := blk2 BP2.out
  have BF3 := Lib.hid (show Blk (w2.setCell ⟨w1.heap.size, 0, none⟩ (.int .i64 f)) w1.heap.size 31 #[.int .i64 f, .int .i64 0, .slice none 0 0] by simpa using BF2.out.set_ 0 (.int .i64 f))
  have lF := BF2.out.lt
  have lP := BP2.out.lt
  have lR := BR2.out.lt
  have hpw : w.heap.size < w1.heap.size := HW0.out
  have BR3 := Lib.hid (BR2.out.far (p := ⟨w1.heap.size, 0, none⟩) (by simp; omega) (.int .i64 f))
  have BP3 := Lib.hid (BP2.out.far (p := ⟨w1.heap.size, 0, none⟩) (by simp) (.int .i64 f))
  have HW3 := Lib.hid (Bs HW2.out (p := ⟨w1.heap.size, 0, none⟩) (by simp; omega) (.int .i64 f))
  have HRR3 := Lib.hid (Wr.RdAt.kept HRR2.out ((Mod.refl (fun i => i = w1.heap.size) w2).setCell (p := ⟨w1.heap.size, 0, none⟩) (.inl rfl) (.int .i64 f)) (fun i hi h => by have := HS.out.2 _ hi; omega))
  go_wp2_with fail
  generalize hw3 : w2.setCell ⟨w1.heap.size, 0, none⟩ (.int .i64 f) = w3 at *
  clear hw3 u0 u1 u2 t0 t1 t2 x0 x1 z0 z1
  obtain ⟨x0, x1, z0, z1⟩ := blk2 BP3.out
  obtain ⟨u0, u1, u2, t0, t1, t2⟩ := blk3 BF3.out
  rw [rounds_succ]
  go_wp2_with fail
  refine (Wr.get_any S r _ 1 _ HRR3.out (by intro x hx; simp at hx)).mono ?_
  rintro e w4 ⟨rfl, hm, hr4⟩
  rw [HG2.out.2.1, HG2.out.1]
  rw [HG2.out.2.2] at hr4
  have HRR4 := Lib.hid hr4
  have HM4 := Lib.hid hm
  clear hm hr4
  have BR4 := BR3.out.kept HM4.out (fun h => by have := HS.out.1 _ h; omega)
  have hw4 := Bm HW3.out HM4.out (fun i hi => Nat.le_of_succ_le (HS.out.1 i hi))
  have HB4 := Lib.hid BR4
  have lp := BR4.lt
  obtain ⟨y0, y1, y2, v0, v1, v2⟩ := blk3 BR4
  replace hw4 := Lib.hid hw4
  clear BR4 x0 x1 z0 z1 u0 u1 u2 t0 t1 t2
  go_wp2_with fail
  obtain ⟨x0, x1, x2, _⟩ := blk3 (HB4.out.set3 (.int .i64 0) (.int .i64 0) (.slice none 0 0))
  refine bodyPost_ret (v := .tuple #[.agg #[.int .i64 0, .int .i64 0, .slice none 0 0], .int .i64 3]) (by simp [results, Try.results43, go_sem, x0, x1, x2]) rfl ?_
  exact UnDid.bad (by rfl) (by decide) (Bs (Bs (Bs hw4.out (by simp) _) (by simp) _) (by simp) _)
set_option maxHeartbeats 1000000 in
theorem un_2 (T : Nat → Prop) (A : Option Addr) (c : Nat) (f t : Int) (rs : List Int) (w : World) (hr : Rd w T 1 (.slice A (f :: t :: rs).length c) (f :: t :: rs).length (bts (f :: t :: rs))) (hT : ∀ i, T i → i < w.heap.size) (hb : Byt (f :: t :: rs)) (hl : (f :: t :: rs).length ≤ 140737488351232) :
    Calls Try.prog 43 #[.slice A (f :: t :: rs).length c] w (UnDid (f :: t :: rs) w) := by
  have HBY := Lib.hid hb
  have HG := Lib.hid (get_one f (t :: rs) hb)
  clear hb
  have HR := Lib.hid hr
  have HG2 := Lib.hid (get_one t rs (fun x hx => HBY.out x (by simp [hx])))
  clear hr
  go_enter Try.func43, Try.ntmps43
  go_wp2_with fail
  refine (Wr.rnew_any T A c _ _ (HR.out.below (Ba (B0 w) _) hT) (fun i hi => Nat.lt_of_lt_of_le (hT i hi) (by simp)) (by omega)).mono ?_
  rintro e w1 ⟨r, S, rfl, hR, hb1, hS1⟩
  have hSw : ∀ i, S i → w.heap.size + 1 ≤ i := fun i hi => by have := hS1 i hi; simpa using this
  have HS := Lib.hid (And.intro hSw (Wr.RdAt.lt hR))
  have BR1 := (Blk.new w 31 #[.int .i64 0, .int .i64 0, .slice none 0 0]).later hb1
  have hw1 := Bt (Ba (B0 w) (.cells #[.int .i64 0, .int .i64 0, .slice none 0 0] 31)) hb1
  have BR := Lib.hid (BR1.below (Ba (Ba (B0 w1) (.cells #[.int .i64 0, .int .i64 0, .slice none 0 0] 31)) (.cells #[.pointer (some ⟨w1.heap.size, 0, none⟩), .pointer (some ⟨w1.heap.size, 1, none⟩)] 104)) BR1.lt)
  have BF := Lib.hid ((Blk.new w1 31 #[.int .i64 0, .int .i64 0, .slice none 0 0]).alloc (.cells #[.pointer (some ⟨w1.heap.size, 0, none⟩), .pointer (some ⟨w1.heap.size, 1, none⟩)] 104))
  have BP := Lib.hid (Blk.new1 w1 (.cells #[.int .i64 0, .int .i64 0, .slice none 0 0] 31) 104 #[.pointer (some ⟨w1.heap.size, 0, none⟩), .pointer (some ⟨w1.heap.size, 1, none⟩)])
  have HRR := Lib.hid (hR.below (Ba (Ba (B0 w1) (.cells #[.int .i64 0, .int .i64 0, .slice none 0 0] 31)) (.cells #[.pointer (some ⟨w1.heap.size, 0, none⟩), .pointer (some ⟨w1.heap.size, 1, none⟩)] 104)))
  have HW1 := Lib.hid (Ba (Ba hw1 (.cells #[.int .i64 0, .int .i64 0, .slice none 0 0] 31)) (.cells #[.pointer (some ⟨w1.heap.size, 0, none⟩), .pointer (some ⟨w1.heap.size, 1, none⟩)] 104))
  obtain ⟨x0, x1, z0, z1⟩ := blk2 BP.out
  have HW0 := Lib.hid (Nat.lt_of_lt_of_le (Nat.lt_succ_self _) (by simpa using hb1.size) : w.heap.size < w1.heap.size)
  clear hS1 hb1 hw1 BR1 hR hSw
  go_wp2_with fail
  refine wp_loop_rounds 3 ?_
  rw [rounds_succ]
  go_wp2_with fail
  refine (Wr.get_any S r _ 1 _ HRR.out (by exact HBY.out)).mono ?_
  rintro e w2 ⟨rfl, hm, hr2⟩
  rw [HG.out.2.1, HG.out.1]
  rw [HG.out.2.2] at hr2
  have HRR2 := Lib.hid hr2
  have HM2 := Lib.hid hm
  clear hm hr2
  obtain ⟨u0, u1, u2, t0, t1, t2⟩ := blk3 (BF.out.kept HM2.out (fun h => by have := HS.out.2 _ h; omega))
  have BF2 := Lib.hid (BF.out.kept HM2.out (fun h => by have := HS.out.2 _ h; omega))
  have BR2 := Lib.hid (BR.out.kept HM2.out (fun h => by have := HS.out.1 _ h; omega))
  have BP2 := Lib.hid (BP.out.kept HM2.out (fun h => by have := HS.out.2 _ h; omega))
  have HW2 := Lib.hid (Bm HW1.out HM2.out (fun i hi => Nat.le_of_succ_le (HS.out.1 i hi)))
  clear x0 x1 z0 z1
  obtain ⟨x0, x1, z0, z1⟩ := blk2 BP2.out
  have BF3 := Lib.hid (show Blk (w2.setCell ⟨w1.heap.size, 0, none⟩ (.int .i64 f)) w1.heap.size 31 #[.int .i64 f, .int .i64 0, .slice none 0 0] by simpa using BF2.out.set_ 0 (.int .i64 f))
  have lF := BF2.out.lt
  have lP := BP2.out.lt
  have lR := BR2.out.lt
  have hpw : w.heap.size < w1.heap.size := HW0.out
  have BR3 := Lib.hid (BR2.out.far (p := ⟨w1.heap.size, 0, none⟩) (by simp; omega) (.int .i64 f))
  have BP3 := Lib.hid (BP2.out.far (p := ⟨w1.heap.size, 0, none⟩) (by simp) (.int .i64 f))
  have HW3 := Lib.hid (Bs HW2.out (p := ⟨w1.heap.size, 0, none⟩) (by simp; omega) (.int .i64 f))
  have HRR3 := Lib.hid (Wr.RdAt.kept HRR2.out ((Mod.refl (fun i => i = w1.heap.size) w2).setCell (p := ⟨w1.heap.size, 0, none⟩) (.inl rfl) (.int .i64 f)) (fun i hi h => by have := HS.out.2 _ hi; omega))
  go_wp2_with fail
  generalize hw3 : w2.setCell ⟨w1.heap.size, 0, none⟩ (.int .i64 f) = w3 at *
  clear hw3 u0 u1 u2 t0 t1 t2 x0 x1 z0 z1
  obtain ⟨x0, x1, z0, z1⟩ := blk2 BP3.out
  obtain ⟨u0, u1, u2, t0, t1, t2⟩ := blk3 BF3.out
  rw [rounds_succ]
  go_wp2_with fail
  refine (Wr.get_any S r _ 1 _ HRR3.out (by exact fun x hx => HBY.out x (by simp only [List.mem_cons] at hx ⊢; exact .inr hx))).mono ?_
  rintro e w4 ⟨rfl, hm, hr4⟩
  rw [HG2.out.2.1, HG2.out.1]
  rw [HG2.out.2.2] at hr4
  have HRR4 := Lib.hid hr4
  have HM4 := Lib.hid hm
  clear hm hr4
  have BR4 := Lib.hid (BR3.out.kept HM4.out (fun h => by have := HS.out.1 _ h; omega))
  have BF4 := Lib.hid (BF3.out.kept HM4.out (fun h => by have := HS.out.2 _ h; omega))
  have HW4 := Lib.hid (Bm HW3.out HM4.out (fun i hi => Nat.le_of_succ_le (HS.out.1 i hi)))
  clear x0 x1 z0 z1 u0 u1 u2 t0 t1 t2
  obtain ⟨u0, u1, u2, t0, t1, t2⟩ := blk3 BF4.out
  have lF4 := BF4.out.lt
  have BF5 := Lib.hid (show Blk (w4.setCell ⟨w1.heap.size, 1, none⟩ (.int .i64 t)) w1.heap.size 31 #[.int .i64 f, .int .i64 t, .slice none 0 0] by simpa using BF4.out.set_ 1 (.int .i64 t))
  have BR5 := Lib.hid (BR4.out.far (p := ⟨w1.heap.size, 1, none⟩) (by simp; omega) (.int .i64 t))
  have HW5 := Lib.hid (Bs HW4.out (p := ⟨w1.heap.size, 1, none⟩) (by simp; omega) (.int .i64 t))
  have HRR5 := Lib.hid (Wr.RdAt.kept HRR4.out ((Mod.refl (fun i => i = w1.heap.size) w4).setCell (p := ⟨w1.heap.size, 1, none⟩) (.inl rfl) (.int .i64 t)) (fun i hi h => by have := HS.out.2 _ hi; omega))
  have hBr : Byt rs := fun x hx => HBY.out x (by simp [hx])
  have HBR := Lib.hid hBr
  clear hBr
  go_wp2_with fail
  generalize hw5 : w4.setCell ⟨w1.heap.size, 1, none⟩ (.int .i64 t) = w5 at *
  clear hw5 u0 u1 u2 t0 t1 t2
  rw [rounds_succ]
  go_wp2_with fail
  refine (Wr.roctets_any S r rs 4608 w5 HRR5.out HBR.out).mono ?_
  rintro e w6 ⟨A6, c6, rfl, ho6, hm6, hr6⟩
  obtain ⟨V, hV⟩ : ∃ V, V = Wr.roV rs 4608 := ⟨_, rfl⟩
  obtain ⟨E, hE⟩ : ∃ E, E = Wr.roE rs 4608 := ⟨_, rfl⟩
  obtain ⟨L, hL⟩ : ∃ L, L = Wr.roL rs 4608 := ⟨_, rfl⟩
  rw [← hV] at ho6 ⊢
  rw [← hE]
  rw [← hL] at hr6
  have HVE := Lib.hid (And.intro hV (And.intro hE hL))
  have HO6 := Lib.hid ho6
  have HRR6 := Lib.hid hr6
  have BR6 := Lib.hid (BR5.out.kept hm6 (fun h => by have := HS.out.1 _ h; omega))
  have BF6 := Lib.hid (BF5.out.kept hm6 (fun h => by have := HS.out.2 _ h; omega))
  have HW6 := Lib.hid (Bm HW5.out hm6 (fun i hi => Nat.le_of_succ_le (HS.out.1 i hi)))
  have lw6 := HW5.out.size
  clear hV hE hL ho6 hr6 hm6
  by_cases hE0 : E = 0
  · subst hE0
    go_wp2_with fail
    refine (Wr.end_any S r L w6 HRR6.out).mono ?_
    rintro e w7 ⟨rfl, hw7⟩
    have hb7 : Below w6.heap.size w6 w7 := by obtain ⟨n, rfl⟩ := hw7; exact BdN (B0 _) n
    have BR7 := Lib.hid (BR6.out.later hb7)
    have BF7 := Lib.hid (BF6.out.later hb7)
    have HW7 := Lib.hid (Bt HW6.out hb7)
    have HO7 := Lib.hid (own_below HO6.out hb7)
    have lF7 := BF7.out.lt
    have lR7 := BR7.out.lt
    obtain ⟨u0, u1, u2, t0, t1, t2⟩ := blk3 BF7.out
    clear hw7 hb7
    have BFz := Lib.hid (show Blk (w7.setCell ⟨w1.heap.size, 2, none⟩ (.slice A6 V.length c6)) w1.heap.size 31 #[.int .i64 f, .int .i64 t, .slice A6 V.length c6] by simpa using BF7.out.set_ 2 (.slice A6 V.length c6))
    have BRz := Lib.hid (BR7.out.far (p := ⟨w1.heap.size, 2, none⟩) (by simp; omega) (.slice A6 V.length c6))
    have HWz := Lib.hid (Bs HW7.out (p := ⟨w1.heap.size, 2, none⟩) (by simp; omega) (.slice A6 V.length c6))
    have HOz := Lib.hid (own_mod HO7.out ((Mod.refl (fun i => i = w1.heap.size) w7).setCell (p := ⟨w1.heap.size, 2, none⟩) (.inl rfl) (.slice A6 V.length c6)) (fun i hi h => own_ne_blk HO7.out BF7.out (by decide) (by rw [hi, h])) (Nat.le_refl _))
    by_cases hL0 : L = []
    · have hen : Wr.endE L = 0 := by unfold Wr.endE; rw [if_pos hL0]
      rw [hen]
      have HL0 := Lib.hid hL0
      clear hL0 hen
      go_wp2_with fail
      generalize hwz : w7.setCell ⟨w1.heap.size, 2, none⟩ (.slice A6 V.length c6) = wz at *
      clear hwz u0 u1 u2 t0 t1 t2
      obtain ⟨u0, u1, u2, t0, t1, t2⟩ := blk3 BFz.out
      refine (check_any f t A6 V.length c6 wz).mono ?_
      rintro e w8 ⟨rfl, hb8⟩
      have BR8 := Lib.hid (BRz.out.later hb8)
      have BF8 := Lib.hid (BFz.out.later hb8)
      have HW8 := Lib.hid (Bt HWz.out hb8)
      have HO8 := Lib.hid (own_below HOz.out hb8)
      have lF8 := BF8.out.lt
      have lR8 := BR8.out.lt
      clear u0 u1 u2 t0 t1 t2 hb8
      obtain ⟨y0, y1, y2, v0, v1, v2⟩ := blk3 BR8.out
      obtain ⟨u0, u1, u2, t0, t1, t2⟩ := blk3 BF8.out
      obtain ⟨E, hE⟩ : ∃ E, E = chkE f t V.length := ⟨_, rfl⟩
      rw [← hE]
      have HE := Lib.hid hE
      clear hE
      have HWz := HW8
      have BRz := BR8
      by_cases hE0 : E = 0
      · subst hE0
        go_wp2_with fail
        obtain ⟨x0, x1, x2, _⟩ := blk3 (BRz.out.set3 (.int .i64 f) (.int .i64 t) (.slice A6 V.length c6))
        refine bodyPost_ret (v := .tuple #[.agg #[.int .i64 f, .int .i64 t, .slice A6 V.length c6], .int .i64 0]) (by simp [results, Try.results43, go_sem, x0, x1, x2]) rfl ?_
        have he : unE (f :: t :: rs) = 0 := by simp only [unE]; rw [if_pos HVE.out.2.1.symm, if_pos (HVE.out.2.2.symm.trans HL0.out), ← HVE.out.1]; exact HE.out.symm
        have h1 : unF (f :: t :: rs) = f := by unfold unF; rw [if_pos he]; rfl
        have h2 : unT (f :: t :: rs) = t := by unfold unT; rw [if_pos he]; rfl
        have h3 : unB (f :: t :: rs) = V := by unfold unB; rw [if_pos he]; exact HVE.out.1.symm
        refine ⟨A6, c6, by rw [h1, h2, h3, he], ?_, Bs (Bs (Bs HWz.out (by simp) _) (by simp) _) (by simp) _⟩
        rw [h3]
        exact own_mod HO8.out ((((Mod.refl (fun i => i = w.heap.size) w8).setCell (p := ⟨w.heap.size, 0, none⟩) (.inl rfl) _).setCell (p := ⟨w.heap.size, 1, none⟩) (.inl rfl) _).setCell (p := ⟨w.heap.size, 2, none⟩) (.inl rfl) _) (fun i hi h => own_ne_blk HO8.out BR8.out (by decide) (by rw [hi, h])) lw6
      · have hEq : (E == 0) = false := by simp [hE0]
        have hEn : (E != 0) = true := by simp [hE0]
        have HE0 := Lib.hid hE0
        clear hE0
        go_wp2_with fail
        obtain ⟨x0, x1, x2, _⟩ := blk3 (BRz.out.set3 (.int .i64 0) (.int .i64 0) (.slice none 0 0))
        refine bodyPost_ret (v := .tuple #[.agg #[.int .i64 0, .int .i64 0, .slice none 0 0], .int .i64 E]) (by simp [results, Try.results43, go_sem, x0, x1, x2]) rfl ?_
        exact UnDid.bad (by simp only [unE]; rw [if_pos HVE.out.2.1.symm, if_pos (HVE.out.2.2.symm.trans HL0.out), ← HVE.out.1]; exact HE.out.symm) HE0.out (Bs (Bs (Bs HWz.out (by simp) _) (by simp) _) (by simp) _)
    · have hen : Wr.endE L = 4 := by unfold Wr.endE; rw [if_neg hL0]
      rw [hen]
      have HL0 := Lib.hid hL0
      clear hL0 hen
      obtain ⟨y0, y1, y2, v0, v1, v2⟩ := blk3 BR7.out
      go_wp2_with fail
      generalize hwz : w7.setCell ⟨w1.heap.size, 2, none⟩ (.slice A6 V.length c6) = wz at *
      clear hwz
      obtain ⟨x0, x1, x2, _⟩ := blk3 (BRz.out.set3 (.int .i64 0) (.int .i64 0) (.slice none 0 0))
      refine bodyPost_ret (v := .tuple #[.agg #[.int .i64 0, .int .i64 0, .slice none 0 0], .int .i64 4]) (by simp [results, Try.results43, go_sem, x0, x1, x2]) rfl ?_
      exact UnDid.bad (by simp only [unE]; rw [if_pos HVE.out.2.1.symm, if_neg (fun h => HL0.out (HVE.out.2.2.trans h))]) (by decide) (Bs (Bs (Bs HWz.out (by simp) _) (by simp) _) (by simp) _)
  · have hEq : (E == 0) = false := by simp [hE0]
    have hEn : (E != 0) = true := by simp [hE0]
    have HE0 := Lib.hid hE0
    have BFz := BF6.out
    have lF7 := BF6.out.lt
    have lR7 := BR6.out.lt
    obtain ⟨u0, u1, u2, t0, t1, t2⟩ := blk3 BF6.out
    have BRz := Lib.hid (BR6.out.far (p := ⟨w1.heap.size, 2, none⟩) (by simp; omega) (.slice A6 V.length c6))
    have HWz := Lib.hid (Bs HW6.out (p := ⟨w1.heap.size, 2, none⟩) (by simp; omega) (.slice A6 V.length c6))
    replace BFz := Lib.hid BFz
    clear hE0
    obtain ⟨y0, y1, y2, v0, v1, v2⟩ := blk3 BR6.out
    go_wp2_with fail
    generalize hwz : w6.setCell ⟨w1.heap.size, 2, none⟩ (.slice A6 V.length c6) = wz at *
    clear hwz
    obtain ⟨x0, x1, x2, _⟩ := blk3 (BRz.out.set3 (.int .i64 0) (.int .i64 0) (.slice none 0 0))
    refine bodyPost_ret (v := .tuple #[.agg #[.int .i64 0, .int .i64 0, .slice none 0 0], .int .i64 E]) (by simp [results, Try.results43, go_sem, x0, x1, x2]) rfl ?_
    exact UnDid.bad (by simp only [unE]; rw [if_neg (fun h => HE0.out (HVE.out.2.1.trans h))]; exact HVE.out.2.1.symm) HE0.out (Bs (Bs (Bs HWz.out (by simp) _) (by simp) _) (by simp) _)

theorem un_any (T : Nat → Prop) (A : Option Addr) (c : Nat) (ys : List Int) (w : World) (hr : Rd w T 1 (.slice A ys.length c) ys.length (bts ys)) (hT : ∀ i, T i → i < w.heap.size) (hb : Byt ys) (hl : ys.length ≤ 140737488351232) :
    Calls Try.prog 43 #[.slice A ys.length c] w (UnDid ys w) := by
  match ys, hr, hb, hl with
  | [], hr, hb, hl => exact un_0 T A c w hr hT
  | [f], hr, hb, hl => exact un_1 T A c f w hr hT hb
  | f :: t :: rs, hr, hb, hl => exact un_2 T A c f t rs w hr hT hb hl
end Go.Proofs.Ytdnbbjhickjnmaa
