/- The coder that reads: fail, flag, some, octets. -/
import Derived.Test.YtnphnaggamfoiaaE1
namespace Go.Proofs.Ytnphnaggamfoiaa
open Go.RowKit
set_option maxRecDepth 20000
set_option linter.unusedVariables false
set_option linter.unusedSimpArgs false

theorem or_any (a b : Int) (gl : Nat) (t : TypeId) (w : World) (hb : Blk w gl t #[.int .i64 a, .int .i64 b]) :
    Calls Try.prog 71 #[.slice (some ⟨gl, 0, none⟩) 2 2] w fun e w' => e = .returned (.int .i64 (if a = 0 then b else a)) ∧ w = w' := by
  obtain ⟨y0, y1, z0, z1⟩ := blk2 hb
  clear hb
  by_cases ha : a = 0
  · rw [if_pos ha]
    subst ha
    by_cases hb : b = 0
    · subst hb
      go_enter Try.func71, Try.ntmps71
      go_wp2_with fail
      refine wp_loop_rounds 3 ?_
      rw [rounds_succ]
      go_wp2_with fail
      rw [rounds_succ]
      go_wp2_with fail
      rw [rounds_succ]
      go_wp2_with fail
      go_ret
      exact ⟨rfl, rfl⟩
    · have hq : (b != 0) = true := by simp [hb]
      clear hb
      go_enter Try.func71, Try.ntmps71
      go_wp2_with fail
      refine wp_loop_rounds 3 ?_
      rw [rounds_succ]
      go_wp2_with fail
      rw [rounds_succ]
      go_wp2_with fail
      go_ret
      exact ⟨rfl, rfl⟩
  · rw [if_neg ha]
    have hq : (a != 0) = true := by simp [ha]
    clear ha
    go_enter Try.func71, Try.ntmps71
    go_wp2_with fail
    refine wp_loop_rounds 3 ?_
    rw [rounds_succ]
    go_wp2_with fail
    go_ret
    exact ⟨rfl, rfl⟩

/-- Behind a call that reads, and writes nothing else. -/
def RrOnly (T : Nat → Prop) (rb : Nat) (s : St) (w : World) (e : Ending) (w' : World) : Prop := e = .returned (.tuple #[]) ∧ RrAt w' T rb s ∧ Mod T w w'
theorem rr_fail {w w1 : World} {T : Nat → Prop} {rb : Nat} {s : St} (h : RrAt w T rb s) (hb : Below w.heap.size w w1) (E : Int) : RrOnly T rb (s.fail true E) w (.returned (.tuple #[])) (w1.setCell ⟨rb, 1, none⟩ (.int .i64 (if s.e = 0 then E else s.e))) := by
  obtain ⟨h1, h2, h3, p, S, h4, h5, h6, h7⟩ := h
  have hm : Mod (fun i => i = rb) w (w1.setCell ⟨rb, 1, none⟩ (.int .i64 (if s.e = 0 then E else s.e))) := (Mod.of_below (S := fun i => i = rb) hb).setCell (p := ⟨rb, 1, none⟩) (.inl rfl) _
  have he : (s.fail true E).e = if s.e = 0 then E else s.e := by unfold St.fail; rw [if_pos rfl]; split <;> rfl
  have hl : (s.fail true E).l = s.l := by unfold St.fail; rw [if_pos rfl]; split <;> rfl
  refine ⟨rfl, ⟨h1, fun i hi => Nat.lt_of_lt_of_le (h2 i hi) hm.size, h3.fail _ _, p, S, h4, h5, ?_, ?_⟩, hm.mono (fun i hi => hi ▸ h1)⟩
  · rw [he]; exact (h6.later hb).set_ 1 _
  · rw [hl]; exact h7.kept hm (fun i hi e => h5 (e ▸ hi))
theorem rfail_any (T : Nat → Prop) (rb : Nat) (b : Bool) (E : Int) (s : St) (w : World) (h : RrAt w T rb s) :
    Calls Try.prog 49 #[.pointer (some ⟨rb, 0, none⟩), .bool b, .int .i64 E] w (RrOnly T rb (s.fail b E) w) := by
  have H := Lib.hid h
  obtain ⟨h1, h2, h3, p, S, h4, h5, h6, h7⟩ := h
  obtain ⟨y0, y1, z0, z1⟩ := blk2 h6
  have lr := h6.lt
  clear h1 h2 h3 h4 h5 h6 h7
  cases b
  · go_enter Try.func49, Try.ntmps49
    go_wp2_with fail
    refine bodyPost_ret (v := .tuple #[]) (by simp [results, Try.results49, go_sem]) rfl ?_
    exact ⟨rfl, H.out, Mod.refl _ _⟩
  · by_cases h0 : s.e = 0
    · have HF := Lib.hid (rr_fail H.out (B0 w) E)
      rw [if_pos h0] at HF
      rw [h0] at y1
      clear h0
      go_enter Try.func49, Try.ntmps49
      go_wp2_with fail
      refine (or_any 0 E _ _ _ (Blk.new w _ _)).mono ?_
      rw [if_pos rfl]
      rintro e w' ⟨rfl, rfl⟩
      go_wp2_with fail
      refine bodyPost_ret (v := .tuple #[]) (by simp [results, Try.results49, go_sem]) rfl ?_
      exact ⟨rfl, HF.out.2.1.below (Ba (B0 _) _), HF.out.2.2.alloc _⟩
    · have HF := Lib.hid (rr_fail H.out (B0 w) E)
      rw [if_neg h0] at HF
      have H0 := Lib.hid h0
      clear h0
      go_enter Try.func49, Try.ntmps49
      go_wp2_with fail
      refine (or_any s.e E _ _ _ (Blk.new w _ _)).mono ?_
      rw [if_neg H0.out]
      rintro e w' ⟨rfl, rfl⟩
      go_wp2_with fail
      refine bodyPost_ret (v := .tuple #[]) (by simp [results, Try.results49, go_sem]) rfl ?_
      exact ⟨rfl, HF.out.2.1.below (Ba (B0 _) _), HF.out.2.2.alloc _⟩

set_option maxHeartbeats 1000000 in
theorem rsome_any (T : Nat → Prop) (rb : Nat) (n : Int) (s : St) (w : World) (h : RrAt w T rb s) :
    Calls Try.prog 111 #[.pointer (some ⟨rb, 0, none⟩), .int .i64 n] w fun e w' => ∃ A c, e = .returned (.slice A (s.some n).length c) ∧ w'.ownsRow w.heap.size 5 1 (.slice A (s.some n).length c) (s.some n).length (bts (s.some n)) ∧ RrAt w' T rb (s.sk n) ∧ Mod T w w' := by
  have H := Lib.hid h
  obtain ⟨h1, h2, h3, p, S, h4, h5, h6, h7⟩ := h
  obtain ⟨y0, y1, z0, z1⟩ := blk2 h6
  have lr := h6.lt
  by_cases h0 : s.e = 0
  · have HA := Lib.hid (And.intro h1 (And.intro h2 (And.intro h3 (And.intro h4 (And.intro h5 (And.intro h6 (And.intro h7 h0)))))))
    rw [h0] at y1
    have hv : s.some n = Wr.bytV s.l n := by unfold St.some; rw [if_pos h0]
    have hs : s.sk n = ⟨Wr.bytL s.l n, Wr.bytE s.l n⟩ := by unfold St.sk; rw [if_pos h0]
    rw [hv, hs]
    clear h1 h2 h3 h4 h5 h6 h7 h0 hv hs
    go_enter Try.func111, Try.ntmps111
    go_wp2_with fail
    refine (Wr.rbytes_any S p s.l n w HA.out.2.2.2.2.2.2.1).mono ?_
    rintro e w1 ⟨A, c, rfl, ho, hm, hr⟩
    have HM := Lib.hid (And.intro ho (And.intro hm hr))
    have B1 := HA.out.2.2.2.2.2.1.kept hm HA.out.2.2.2.2.1
    obtain ⟨b0, b1, f0, f1⟩ := blk2 B1
    have lr1 := B1.lt
    have HB1 := Lib.hid B1
    clear ho hm hr y0 y1 z0 z1 B1
    go_wp2_with fail
    go_ret
    have m1 : Mod (fun i => i = rb) w1 (w1.setCell ⟨rb, 1, none⟩ (.int .i64 (Wr.bytE s.l n))) := (Mod.refl (fun i => i = rb) w1).setCell (p := ⟨rb, 1, none⟩) (.inl rfl) _
    have mt := (HM.out.2.1.mono (T := T) HA.out.2.2.2.1).trans (m1.mono (T := T) (fun i hi => hi ▸ HA.out.1)) (fun i hi => .inl hi)
    refine ⟨A, c, rfl, ?_, ⟨HA.out.1, fun i hi => Nat.lt_of_lt_of_le (HA.out.2.1 i hi) mt.size, Wr.bytL_byt HA.out.2.2.1 _, p, S, HA.out.2.2.2.1, HA.out.2.2.2.2.1, HB1.out.set_ 1 _, HM.out.2.2.kept m1 (fun i hi e => HA.out.2.2.2.2.1 (e ▸ hi))⟩, mt⟩
    exact own_mod HM.out.1 m1 (fun i hi e => by have := own_ge HM.out.1 i hi; omega) (Nat.le_refl _)
  · have hq : (s.e == 0) = false := by simpa using h0
    have hv : s.some n = [] := by unfold St.some; rw [if_neg h0]
    rw [hv, St.sk_bad h0]
    clear h1 h2 h3 h4 h5 h6 h7 h0 hv
    go_enter Try.func111, Try.ntmps111
    go_wp2_with fail
    go_ret
    exact ⟨none, 0, rfl, World.ownsRow_nil _ _ _ _, H.out, Mod.refl _ _⟩
theorem num0 (s : St) (n : Nat) : (if s.e = 0 then s.num n else 0) = s.num n := by
  unfold St.num
  split <;> rfl

set_option maxHeartbeats 1000000 in
theorem rflag_any (T : Nat → Prop) (rb g o : Nat) (t : TypeId) (cs : Array Value) (x : Bool) (s : St) (w : World) (h : RrAt w T rb s) (hb : Blk w g t cs) (hg : ¬ T g) (hc : cs[o]? = some (.bool x)) :
    Calls Try.prog 108 #[.pointer (some ⟨rb, 0, none⟩), .pointer (some ⟨g, o, none⟩)] w (RrDid T rb g t (cs.setIfInBounds o (.bool s.flag)) s.fx w) := by
  have H := Lib.hid (h.below (Ba (B0 w) (.cells #[.int .i64 0] 3)))
  have HB := Lib.hid (And.intro (hb.alloc (.cells #[.int .i64 0] 3)) (And.intro hg hc))
  have hnT : ¬ T w.heap.size := fun h' => by have := h.2.1 _ h'; omega
  have lg := hb.lt
  have hnw : g ≠ w.heap.size := by omega
  have HW := Lib.hid (Ba (B0 w) (.cells #[.int .i64 0] 3))
  clear h hb hg hc
  go_enter Try.func108, Try.ntmps108
  go_wp2_with fail
  refine (rnum_any T rb w.heap.size 0 1 3 #[.int .i64 0] 0 s _ H.out (Blk.new w 3 _) hnT rfl).mono ?_
  rw [num0]
  rintro e w1 ⟨rfl, hr, hm, hk⟩
  have HR := Lib.hid hr
  have HG := Lib.hid (HB.out.1.kept hm (fun h => h.elim HB.out.2.1 hnw))
  have HM := Lib.hid ((Mod.of_below (S := fun i => T i ∨ i = w.heap.size) HW.out).trans hm (fun i hi => .inl hi))
  have HK := Lib.hid (show Blk w1 w.heap.size 3 #[.int .i64 (s.num 1)] from hk)
  have c0 := HK.out.cell 0
  have l1 := HK.out.lt
  have c0' : w1.cell? ⟨w.heap.size, 0, none⟩ = some (.int .i64 (s.num 1)) := c0
  clear hr hm hk c0
  go_wp2_with fail
  refine (rfail_any T rb (decide (1 < s.num 1)) 4 (s.nx 1) w1 HR.out).mono ?_
  rintro e w2 ⟨rfl, hr, hm⟩
  replace HR := Lib.hid (show RrAt w2 T rb s.fx from hr)
  replace HG := Lib.hid (HG.out.kept hm HB.out.2.1)
  replace HM := Lib.hid (HM.out.trans hm (fun i hi => .inl (.inl hi)))
  replace HK := Lib.hid (HK.out.kept hm hnT)
  have c1 : w2.cell? ⟨w.heap.size, 0, none⟩ = some (.int .i64 (s.num 1)) := HK.out.cell 0
  have l2 := HK.out.lt
  have g0 := (HG.out.cell o).trans HB.out.2.2
  have g1 := HG.out.frozen o
  have lg2 := HG.out.lt
  clear hr hm c0' l1
  go_wp2_with fail
  refine bodyPost_ret (v := .tuple #[]) (by simp [results, Try.results108, go_sem]) rfl ?_
  have m1 : Mod (fun i => i = g) w2 (w2.setCell ⟨g, o, none⟩ (.bool (s.num 1 == 1))) := (Mod.refl (fun i => i = g) w2).setCell (p := ⟨g, o, none⟩) (.inl rfl) _
  refine ⟨rfl, HR.out.kept m1 (fun i hi e => HB.out.2.1 (e ▸ hi)), ?_, HG.out.set_ o _⟩
  exact ((Mod.refl (fun i => T i ∨ i = g) w).trans HM.out (fun i hi => hi.elim (fun h => .inl (.inl h)) (fun h => .inr (by omega)))).trans m1 (fun i hi => .inl (.inr hi))
end Go.Proofs.Ytnphnaggamfoiaa
