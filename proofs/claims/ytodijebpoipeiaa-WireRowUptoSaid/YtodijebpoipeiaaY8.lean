/- The statement WireEats: what a round keeps; spoil, any row of the call's own. -/
import Derived.Test.YtodijebpoipeiaaY7
import Derived.Test.YtodijebpoipeiaaX7
import Derived.Test.YtodijebpoipeiaaW12
import Derived.Test.YtodijebpoipeiaaQ1
namespace Go.Proofs.Ytodijebpoipeiaa
open Go.RowKit
set_option maxRecDepth 20000
set_option linter.unusedVariables false
set_option linter.unusedSimpArgs false

theorem uend_any (S : Nat → Prop) (p : Nat) (ys : List Int) (w : World) (h : RfAt w S p ys) :
    Calls Try.prog 37 #[.pointer (some ⟨p, 0, none⟩)] w fun e w' => e = .returned (.int .i64 (endE ys)) ∧ ∃ n, w' = w.drewN n := by
  obtain ⟨h1, A, c, pre, hl, h2, h4, h6, h7⟩ := h
  obtain ⟨x0, x1, f0, f1⟩ := blk2 h4
  clear h1 h2 h4 h6 h7
  unfold endE
  by_cases h0 : ys = []
  · subst h0
    simp only [List.length_nil, Nat.add_zero, if_true] at x0 hl ⊢
    go_enter Try.func37, Try.ntmps37
    go_wp2_with fail
    go_quiet (fail)
    go_wp2_with fail
    go_ret
    exact ⟨rfl, nq, rfl⟩
  · rw [if_neg h0]
    have hp : (0 : Int) < (ys.length : Int) := by have := List.length_pos_iff.2 h0; omega
    have hq : (pre.length : Int) < (pre.length : Int) + (ys.length : Int) := by omega
    clear h0
    go_enter Try.func37, Try.ntmps37
    go_wp2_with fail
    go_quiet (fail)
    go_wp2_with fail
    go_ret
    exact ⟨rfl, nq, rfl⟩

theorem bring3' (x : Int) : bringF x 3 = 0 ∨ bringF x 3 = 1 ∨ bringF x 3 = 2 := by
  have := bringF_lt x 3 (by omega)
  omega
theorem bytV_byt {ys : List Int} (h : Byt ys) (n : Int) : Byt (bytV ys n) := by unfold bytV; split; exact h.take _; exact Byt.nil
theorem roV_byt {ys : List Int} (h : Byt ys) (n : Int) : Byt (roV ys n) := by unfold roV; split; exact (h.drop _).take _; exact Byt.nil
theorem bytV_len {ys : List Int} (n : Int) : (bytV ys n).length ≤ ys.length := by unfold bytV; split <;> simp <;> omega
theorem roV_len {ys : List Int} (n : Int) : (roV ys n).length ≤ ys.length := by unfold roV; split <;> simp <;> omega
theorem getL_len {ys : List Int} (n : Int) : (getL ys n).length ≤ ys.length := by unfold getL; split <;> simp
theorem bytL_len {ys : List Int} (n : Int) : (bytL ys n).length ≤ ys.length := by unfold bytL; split <;> simp
theorem roL_len {ys : List Int} (n : Int) : (roL ys n).length ≤ ys.length := by unfold roL; split <;> simp <;> omega

theorem spoil_zero (w : World) (A : Option Addr) (c : Nat) : Calls Try.prog 24 #[.slice A 0 c] w fun e w' => e = .returned (.tuple #[]) ∧ w' = w := by
  go_enter Try.func24, Try.ntmps24
  go_wp2_with fail
  go_loopw [2] (fun i wr => i = .int .i64 0 ∧ wr = w) (fun i _ => 0)
  case atStart => exact ⟨rfl, rfl⟩
  case round =>
    obtain ⟨rfl, rfl⟩ := hrel
    go_wp2_with fail
    go_end0
    exact ⟨rfl, rfl⟩

theorem spoil_row {w : World} {B c : Nat} {A : Option Addr} {l : List Int} (h : w.ownsRow B 5 1 (.slice A l.length c) l.length (bts l)) (hb : Byt l) (hl : l.length ≤ 140737488355328) :
    Calls Try.prog 24 #[.slice A l.length c] w fun e w' => e = .returned (.tuple #[]) ∧ Mod (fun i => (Value.slice A l.length c).ownBlock = some i) w w' := by
  rcases Nat.eq_zero_or_pos l.length with h0 | h0
  · rw [h0]
    refine (spoil_zero w A c).mono ?_
    rintro e w' ⟨rfl, rfl⟩
    exact ⟨rfl, Mod.refl _ _⟩
  · obtain ⟨g, rfl, h1, h2, h3, h4⟩ := own_at h h0
    refine (spoil_own w g c l h4 hb hl h2).mono ?_
    rintro e w' ⟨rfl, hm⟩
    exact ⟨rfl, hm.mono (fun i hi => by subst hi; simp [Value.ownBlock])⟩

structure Et (W wr : World) (S1 S2 : Nat → Prop) (r s : Nat) (L : List Int) : Prop where
  hb : Below W.heap.size W wr
  bl : Byt L
  ln : L.length ≤ 140737488355328
  rd : RdAt wr S1 r L
  rf : RfAt wr S2 s L
  n1 : ∀ i, S1 i → W.heap.size ≤ i
  n2 : ∀ i, S2 i → W.heap.size ≤ i
  dj : ∀ i, S1 i → ¬ S2 i

theorem RdAt.lt {w : World} {S : Nat → Prop} {p : Nat} {L : List Int} (h : RdAt w S p L) : ∀ i, S i → i < w.heap.size := by obtain ⟨_, _, _, _, h⟩ := h; exact h.1
theorem RfAt.lt {w : World} {S : Nat → Prop} {p : Nat} {L : List Int} (h : RfAt w S p L) : ∀ i, S i → i < w.heap.size := h.1
theorem Et.below {W wr w' : World} {S1 S2 : Nat → Prop} {r s : Nat} {L : List Int} (h : Et W wr S1 S2 r s L) (hb : Below wr.heap.size wr w') : Et W w' S1 S2 r s L :=
  ⟨Bt h.hb hb, h.bl, h.ln, h.rd.below hb, h.rf.below hb, h.n1, h.n2, h.dj⟩
theorem Et.mid {W wr w2 : World} {S1 S2 : Nat → Prop} {r s : Nat} {L L' : List Int} (h : Et W wr S1 S2 r s L) (hd : RDid S1 r L' wr w2) : RfAt w2 S2 s L := h.rf.kept hd.1 (fun i h2 h1 => h.dj i h1 h2)
theorem Et.done {W wr w2 w3 : World} {S1 S2 : Nat → Prop} {r s : Nat} {L L' : List Int} (h : Et W wr S1 S2 r s L) (hl' : Byt L') (hn : L'.length ≤ L.length) (h1 : RDid S1 r L' wr w2) (h2 : FDid S2 s L' w2 w3) : Et W w3 S1 S2 r s L' :=
  ⟨Bm (Bm h.hb h1.1 h.n1) h2.1 h.n2, hl', Nat.le_trans hn h.ln, h1.2.kept h2.1 h.dj, h2.2, h.n1, h.n2, h.dj⟩
/-- Two rows that were read, the first of the call's own and apart from the readers. -/
structure Ex (W wr : World) (S1 S2 : Nat → Prop) (r s : Nat) (L : List Int) (A3 : Option Addr) (c3 : Nat) (A4 : Option Addr) (c4 : Nat) (xs : List Int) : Prop where
  et : Et W wr S1 S2 r s L
  bx : Byt xs
  lx : xs.length ≤ 140737488355328
  ox : wr.ownsRow W.heap.size 5 1 (.slice A3 xs.length c3) xs.length (bts xs)
  oy : wr.ownsRow W.heap.size 5 1 (.slice A4 xs.length c4) xs.length (bts xs)
  ax : ∀ k, (Value.slice A3 xs.length c3).ownBlock = some k → ¬ S1 k ∧ ¬ S2 k

theorem Et.both {W wr w2 w3 : World} {S1 S2 : Nat → Prop} {r s : Nat} {L L' xs : List Int} {A3 A4 : Option Addr} {c3 c4 : Nat} (h : Et W wr S1 S2 r s L) (hl' : Byt L') (hn : L'.length ≤ L.length) (hx : Byt xs) (hxl : xs.length ≤ L.length) (h1 : RDid S1 r L' wr w2) (h2 : FDid S2 s L' w2 w3)
    (o1 : w2.ownsRow wr.heap.size 5 1 (.slice A3 xs.length c3) xs.length (bts xs)) (o2 : w3.ownsRow w2.heap.size 5 1 (.slice A4 xs.length c4) xs.length (bts xs)) : Ex W w3 S1 S2 r s L' A3 c3 A4 c4 xs := by
  have g1 := own_ge o1
  have l1 := h.rd.lt
  have l2 := h.rf.lt
  refine ⟨h.done hl' hn h1 h2, hx, Nat.le_trans hxl h.ln, own_mod o1 h2.1 (fun k hk hs => ?_) h.hb.size, own_mod o2 (Mod.refl (fun _ => False) _) (fun _ _ h => h) (Nat.le_trans h.hb.size h1.1.size), fun k hk => ⟨fun hs => ?_, fun hs => ?_⟩⟩
  · have := g1 k hk; have := l2 k hs; omega
  · have := g1 k hk; have := l1 k hs; omega
  · have := g1 k hk; have := l2 k hs; omega
theorem Ex.below {W wr w' : World} {S1 S2 : Nat → Prop} {r s : Nat} {L xs : List Int} {A3 A4 : Option Addr} {c3 c4 : Nat} (h : Ex W wr S1 S2 r s L A3 c3 A4 c4 xs) (hb : Below wr.heap.size wr w') : Ex W w' S1 S2 r s L A3 c3 A4 c4 xs :=
  ⟨h.et.below hb, h.bx, h.lx, own_below h.ox hb, own_below h.oy hb, h.ax⟩
theorem Ex.spoiled {W wr w' : World} {S1 S2 : Nat → Prop} {r s : Nat} {L xs : List Int} {A3 A4 : Option Addr} {c3 c4 : Nat} (h : Ex W wr S1 S2 r s L A3 c3 A4 c4 xs) (hm : Mod (fun i => (Value.slice A3 xs.length c3).ownBlock = some i) wr w') : Et W w' S1 S2 r s L :=
  ⟨Bm h.et.hb hm (fun i hi => own_ge h.ox i hi), h.et.bl, h.et.ln, h.et.rd.kept hm (fun i hi hk => (h.ax i hk).1 hi), h.et.rf.kept hm (fun i hi hk => (h.ax i hk).2 hi), h.et.n1, h.et.n2, h.et.dj⟩
end Go.Proofs.Ytodijebpoipeiaa
