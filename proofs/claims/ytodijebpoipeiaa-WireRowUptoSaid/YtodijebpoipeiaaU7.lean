/- WireRow: what a round keeps. -/
import Derived.Test.YtodijebpoipeiaaU6
import Derived.Test.YtodijebpoipeiaaY8
namespace Go.Proofs.Ytodijebpoipeiaa
open Go.RowKit
set_option maxRecDepth 20000
set_option linter.unusedVariables false
set_option linter.unusedSimpArgs false

/-- Both writers, apart, that hold the same bytes. -/
structure Wt (W w : World) (S1 S2 : Nat → Prop) (p u : Nat) (xs ys : List Int) (n : Nat) : Prop where
  hb : Below W.heap.size W w
  w1 : WrAt w S1 p xs
  w2 : RwAt w S2 u ys n
  g1 : ∀ i, S1 i → W.heap.size ≤ i
  g2 : ∀ i, S2 i → W.heap.size ≤ i
  dj : ∀ i, S1 i → ¬ S2 i
theorem Wt.l1 {W w : World} {S1 S2 : Nat → Prop} {p u n : Nat} {xs ys : List Int} (h : Wt W w S1 S2 p u xs ys n) : ∀ i, S1 i → i < w.heap.size := h.w1.1
theorem Wt.l2 {W w : World} {S1 S2 : Nat → Prop} {p u n : Nat} {xs ys : List Int} (h : Wt W w S1 S2 p u xs ys n) : ∀ i, S2 i → i < w.heap.size := h.w2.2.1
theorem Wt.below {W w w' : World} {S1 S2 : Nat → Prop} {p u n : Nat} {xs ys : List Int} (h : Wt W w S1 S2 p u xs ys n) (hb : Below w.heap.size w w') : Wt W w' S1 S2 p u xs ys n :=
  ⟨Bt h.hb hb, h.w1.below hb, h.w2.below hb, h.g1, h.g2, h.dj⟩
theorem Wt.kept {W w w' : World} {S1 S2 T : Nat → Prop} {p u n : Nat} {xs ys : List Int} (h : Wt W w S1 S2 p u xs ys n) (hm : Mod T w w') (h0 : ∀ i, T i → W.heap.size ≤ i) (hT1 : ∀ i, S1 i → ¬ T i) (hT2 : ∀ i, S2 i → ¬ T i) : Wt W w' S1 S2 p u xs ys n :=
  ⟨Bm h.hb hm h0, h.w1.kept hm hT1, h.w2.kept hm hT2, h.g1, h.g2, h.dj⟩
theorem Wt.did1 {W w w' : World} {S1 S2 : Nat → Prop} {p u n : Nat} {xs ys xs' : List Int} {v : Value} {e : Ending} (h : Wt W w S1 S2 p u xs ys n) (hd : WDid S1 p xs' v w e w') :
    ∃ S', Wt W w' S' S2 p u xs' ys n ∧ Mod S1 w w' ∧ ∀ i, S' i → S1 i ∨ w.heap.size ≤ i := by
  obtain ⟨_, S', hm, hw, hs⟩ := hd
  refine ⟨S', ⟨Bm h.hb hm h.g1, hw, h.w2.kept hm (fun i h2 h1 => h.dj i h1 h2), fun i hi => ?_, h.g2, fun i hi h2 => ?_⟩, hm, hs⟩
  · rcases hs i hi with h' | h'
    · exact h.g1 i h'
    · exact Nat.le_trans h.hb.size h'
  · rcases hs i hi with h' | h'
    · exact h.dj i h' h2
    · have := h.l2 i h2; omega
theorem Wt.did2 {W w w' : World} {S1 S2 : Nat → Prop} {p u n m : Nat} {xs ys ys' : List Int} {v : Value} {e : Ending} (h : Wt W w S1 S2 p u xs ys n) (hd : UWDid S2 u ys' m v w e w') :
    ∃ S', Wt W w' S1 S' p u xs ys' m ∧ Mod S2 w w' ∧ ∀ i, S' i → S2 i ∨ w.heap.size ≤ i := by
  obtain ⟨_, S', hm, hw, hs⟩ := hd
  refine ⟨S', ⟨Bm h.hb hm h.g2, h.w1.kept hm h.dj, hw, h.g1, fun i hi => ?_, fun i hi h2 => ?_⟩, hm, hs⟩
  · rcases hs i hi with h' | h'
    · exact h.g2 i h'
    · exact Nat.le_trans h.hb.size h'
  · rcases hs i h2 with h' | h'
    · exact h.dj i hi h'
    · have := h.l1 i hi; omega

/-- A block of the call's, and a row of bytes of its own, apart from both writers. -/
structure Wx (W w : World) (S1 S2 : Nat → Prop) (b : Nat) (cs : Array Value) (A : Option Addr) (c : Nat) (bs : List Int) : Prop where
  blk : Blk w b 29 cs
  nb : ¬ S1 b ∧ ¬ S2 b ∧ W.heap.size ≤ b
  row : w.ownsRow W.heap.size 5 1 (.slice A bs.length c) bs.length (bts bs)
  nr : ∀ k, (Value.slice A bs.length c).ownBlock = some k → ¬ S1 k ∧ ¬ S2 k ∧ k ≠ b
theorem Wx.below {W w w' : World} {S1 S2 : Nat → Prop} {b c : Nat} {cs : Array Value} {A : Option Addr} {bs : List Int} (h : Wx W w S1 S2 b cs A c bs) (hb : Below w.heap.size w w') : Wx W w' S1 S2 b cs A c bs :=
  ⟨h.blk.later hb, h.nb, own_below h.row hb, h.nr⟩
theorem Wx.did {W w w' : World} {S1 S2 S1' S2' T : Nat → Prop} {b c : Nat} {cs : Array Value} {A : Option Addr} {bs : List Int} (h : Wx W w S1 S2 b cs A c bs) (hm : Mod T w w') (hT : ∀ i, T i → S1 i ∨ S2 i) (h1 : ∀ i, S1' i → S1 i ∨ w.heap.size ≤ i) (h2 : ∀ i, S2' i → S2 i ∨ w.heap.size ≤ i) : Wx W w' S1' S2' b cs A c bs := by
  have lb := h.blk.lt
  have lr := own_lt h.row
  refine ⟨h.blk.kept hm (fun ht => ?_), ⟨fun hs => ?_, fun hs => ?_, h.nb.2.2⟩, own_mod h.row hm (fun k hk ht => ?_) (Nat.le_refl _), fun k hk => ⟨fun hs => ?_, fun hs => ?_, (h.nr k hk).2.2⟩⟩
  · rcases hT _ ht with h' | h'
    · exact h.nb.1 h'
    · exact h.nb.2.1 h'
  · rcases h1 _ hs with h' | h'
    · exact h.nb.1 h'
    · omega
  · rcases h2 _ hs with h' | h'
    · exact h.nb.2.1 h'
    · omega
  · rcases hT _ ht with h' | h'
    · exact (h.nr k hk).1 h'
    · exact (h.nr k hk).2.1 h'
  · rcases h1 _ hs with h' | h'
    · exact (h.nr k hk).1 h'
    · have := lr k hk; omega
  · rcases h2 _ hs with h' | h'
    · exact (h.nr k hk).2.1 h'
    · have := lr k hk; omega

theorem putL_len (xs : List Int) (v size : Int) : (putL xs v size).length ≤ xs.length + 8 := by
  unfold putL
  split
  · rename_i h
    have : size.toNat ≤ 8 := by unfold putE at h; split at h <;> omega
    simp [be_length]; omega
  · omega
theorem octL_len (xs bs : List Int) : (octL xs bs).length ≤ xs.length + bs.length + 2 := by
  unfold octL
  split
  · omega
  · simp [be_length]; omega
theorem putL_byt {xs : List Int} (h : Byt xs) (v size : Int) : Byt (putL xs v size) := by
  unfold putL; split
  · exact h.append (be_byt _ _)
  · exact h
theorem octL_byt {xs bs : List Int} (h : Byt xs) (hb : Byt bs) : Byt (octL xs bs) := by
  unfold octL; split
  · exact h
  · exact h.append ((be_byt _ _).append hb)
theorem putN_le (n : Nat) (v size : Int) : putN n v size ≤ n + 2 := by unfold putN; split <;> omega
end Go.Proofs.Ytodijebpoipeiaa
