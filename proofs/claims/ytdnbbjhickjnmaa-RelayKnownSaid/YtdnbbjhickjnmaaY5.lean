/- The reference's reader: Bytes. -/
import Derived.Test.YtdnbbjhickjnmaaY4
namespace Go.Proofs.Ytdnbbjhickjnmaa.Wr
open Go.RowKit
set_option maxRecDepth 20000
set_option linter.unusedVariables false
set_option maxRecDepth 20000
set_option linter.unusedSimpArgs false

set_option maxHeartbeats 2000000 in
theorem ubytes_some (S : Nat → Prop) (p : Nat) (g c : Nat) (pre zs rs : List Int) (w : World) (hl : pre.length + (zs ++ rs).length ≤ 140737488355328) (h2 : S p) (h4 : Blk w p 133 #[.slice (some ⟨g, 0, none⟩) (pre.length + (zs ++ rs).length) c, .int .i64 pre.length])
    (h6 : w.ownsRow 0 5 1 (.slice (some ⟨g, 0, none⟩) (pre.length + (zs ++ rs).length) c) (pre.length + (zs ++ rs).length) (bts (pre ++ (zs ++ rs)))) (h7 : ∀ k, (Value.slice (some ⟨g, 0, none⟩) (pre.length + (zs ++ rs).length) c).ownBlock = some k → S k) (hS : ∀ i, S i → i < w.heap.size) (hU : RfAt w S p (zs ++ rs)) (hc : pre.length < c) :
    Calls Try.prog 88 #[.pointer (some ⟨p, 0, none⟩), .int .i64 zs.length] w fun e w' => ∃ A' c', e = .returned (.tuple #[.slice A' zs.length c', .int .i64 0]) ∧ w'.ownsRow w.heap.size 5 1 (.slice A' zs.length c') zs.length (bts zs) ∧ FDid S p rs w w' := by
  obtain ⟨i0, hi0, hz0, hz1, hz2⟩ := info_parts info5
  have HB := Lib.hid h4
  have HO := Lib.hid h6
  have HU := Lib.hid hU
  have HS := Lib.hid (And.intro hS (And.intro h2 h7))
  have HL := Lib.hid hl
  have hcap := (Rd.of_own h6).cap.2
  unfold maxLen at hcap
  have q10 : ((zs ++ rs).length : Int) = (zs.length : Int) + (rs.length : Int) := by simp
  have Q10 := Lib.hid q10
  simp only [List.length_append] at hcap hl
  clear h4 h6 hU h7 h2 hS q10
  have hn0 : ¬ (zs.length : Int) < 0 := by omega
  go_enter Try.func88, Try.ntmps88
  go_wp2_with fail
  refine (uleft_any S p (zs ++ rs) _ HU.out).mono ?_
  rintro e w1 ⟨rfl, hw1⟩
  rw [Q10.out]
  have hb1 : Below w.heap.size w w1 := by obtain ⟨n, rfl⟩ := hw1; exact BdN (B0 w) n
  have HB1 := Lib.hid (HB.out.later hb1)
  have HO1 := Lib.hid (own_below HO.out hb1)
  have HBW := Lib.hid hb1
  obtain ⟨x0, x1, f0, f1⟩ := blk2 HB1.out
  have lp1 := HB1.out.lt
  have hq : ¬ ((zs.length : Int) + (rs.length : Int) < (zs.length : Int)) := by omega
  have hk0 : (0 : Int) ≤ (pre.length : Int) := by omega
  have hk1 : (pre.length : Int) + (zs.length : Int) ≤ (c : Int) := by omega
  have hk2 : IntKind.i64.wrap ((pre.length : Int) + (zs.length : Int)) = (pre.length : Int) + (zs.length : Int) := by rw [IntKind.wrap_i64]; omega
  have hk2a : IntKind.i64.wrap ((pre.length : Int) + (zs.length : Int) - (zs.length : Int)) = (pre.length : Int) := by rw [IntKind.wrap_i64]; omega
  have hk2b : IntKind.i64.wrap ((pre.length : Int)) = (pre.length : Int) := by rw [IntKind.wrap_i64]; omega
  have hk3 : (pre.length : Int) < (c : Int) := by omega
  have hk4 : ¬ c = pre.length := by omega
  have hk5 : (0 : Int) ≤ (pre.length : Int) + (zs.length : Int) := by omega
  have hk6 : ((pre.length : Int) + (zs.length : Int)).toNat = pre.length + zs.length := by omega
  have hk7 : (pre.length : Int) ≤ (pre.length : Int) + (zs.length : Int) := by omega
  have hk8 : pre.length ≤ pre.length + zs.length := by omega
  have hk9 : pre.length + zs.length ≤ c := by omega
  have hbl : Blk (w1.setCell ⟨p, 1, none⟩ (.int .i64 ((pre.length : Int) + (zs.length : Int)))) p 133 #[.slice (some ⟨g, 0, none⟩) (pre.length + (zs ++ rs).length) c, .int .i64 ((pre.length : Int) + (zs.length : Int))] := by simpa using HB1.out.set_ 1 (.int .i64 ((pre.length : Int) + (zs.length : Int)))
  obtain ⟨z0, z1, e0, e1⟩ := blk2 hbl
  have hf := RfAt.moved (zs := zs) (rs := rs) (fun i hi => Nat.lt_of_lt_of_le (HS.out.1 i hi) HBW.out.size) HL.out HS.out.2.1 HB1.out HO1.out HS.out.2.2 _ rfl
  have hmm : Mod S w (w1.setCell ⟨p, 1, none⟩ (.int .i64 ((pre.length : Int) + (zs.length : Int)))) := (Mod.of_below HBW.out).setCell (.inl HS.out.2.1) _
  have hrr : Rd ((w1.setCell ⟨p, 1, none⟩ (.int .i64 ((pre.length : Int) + (zs.length : Int)))).drew) S 1 (.slice (some ⟨g, pre.length, none⟩) zs.length (c - pre.length)) zs.length (bts zs) := by
    have hs9 : S g := HS.out.2.2 g (by simp [Value.ownBlock])
    have hgp : ¬ g = p := fun e => own_ne_blk HO1.out HB1.out (show (5 : TypeId) ≠ 133 by decide) (by simp [Value.ownBlock, e])
    have := RfAt.mid (w := w1) (g := g) (c := c) (pre := pre) (zs := zs) (rs := rs) (by simpa using HO1.out) _ rfl
    exact ((this.kept ((Mod.refl (fun k => k = p) w1).setCell (.inl rfl) _) (fun i hi he => hgp (hi.symm.trans he))).mono (fun i hi => hi ▸ hs9)).below (Bd (B0 _)) (fun i hi => by simpa using Nat.lt_of_lt_of_le (HS.out.1 i hi) HBW.out.size)
  have HF := Lib.hid hf
  have HMM := Lib.hid hmm
  have HRR := Lib.hid hrr
  have hsz : w.heap.size ≤ (w1.setCell ⟨p, 1, none⟩ (.int .i64 ((pre.length : Int) + (zs.length : Int)))).heap.size := by simpa using HBW.out.size
  clear hw1 hb1 hbl hf hmm hrr
  go_wp2_with fail
  go_region_law (refine step_append_rd _ rfl (.const (.slice none 0 0)) (.tmp 35) 29 rfl w.heap.size 5 i0 _ 1 1 Try.underlying29 hi0 hz0 hz1 hz2 rfl (by omega) (.slice none 0 0) 0 [] rfl (World.ownsRow_nil _ _ _ _) (fun k => S k) (.slice (some ⟨g, pre.length, none⟩) zs.length (c - pre.length)) zs.length (bts zs) (by simp [Act.eval, Act.put]) HRR.out (bts_one zs) (by simp only [maxLen]; omega) (by omega) (by simpa using HBW.out.size) ?_; intro v1 w2 HA; obtain ⟨A', c', rfl⟩ := own_slice HA.own)
  all_goals
    go_wp2_with fail
    go_ret2
    simp only [Nat.zero_add, List.nil_append] at HA
    have hk := (Bd (B0 (w1.setCell ⟨p, 1, none⟩ (.int .i64 ((pre.length : Int) + (zs.length : Int)))))).grown HA.grown (Nat.le_refl _) (by simp [Value.ownBlock])
    exact ⟨A', c', rfl, HA.own, HMM.out.trans (Mod.of_below (S := fun _ => False) hk) (fun _ h => h.elim), HF.out.below hk⟩

set_option maxHeartbeats 2000000 in
theorem ubytes_full (S : Nat → Prop) (p : Nat) (g : Nat) (pre : List Int) (w : World) (hl : pre.length ≤ 140737488355328) (h2 : S p) (h4 : Blk w p 133 #[.slice (some ⟨g, 0, none⟩) pre.length pre.length, .int .i64 (pre.length : Int)]) (hU : RfAt w S p []) :
    Calls Try.prog 88 #[.pointer (some ⟨p, 0, none⟩), .int .i64 0] w fun e w' => ∃ A' c', e = .returned (.tuple #[.slice A' 0 c', .int .i64 0]) ∧ w'.ownsRow w.heap.size 5 1 (.slice A' 0 c') 0 [] ∧ Mod S w w' ∧ ∃ W W2, w' = W2 ∧ Below w.heap.size w W ∧ Below W.heap.size (W.setCell ⟨p, 1, none⟩ (.int .i64 (pre.length : Int))) W2 := by
  obtain ⟨i0, hi0, hz0, hz1, hz2⟩ := info_parts info5
  have HB := Lib.hid h4
  have HU := Lib.hid hU
  have H2 := Lib.hid h2
  clear h4 hU h2
  go_enter Try.func88, Try.ntmps88
  go_wp2_with fail
  refine (uleft_any S p [] _ HU.out).mono ?_
  rintro e w1 ⟨rfl, hw1⟩
  have hb1 : Below w.heap.size w w1 := by obtain ⟨n, rfl⟩ := hw1; exact BdN (B0 w) n
  have HB1 := Lib.hid (HB.out.later hb1)
  have HBW := Lib.hid hb1
  obtain ⟨x0, x1, f0, f1⟩ := blk2 HB1.out
  have lp1 := HB1.out.lt
  have hk2b : IntKind.i64.wrap ((pre.length : Int)) = ((pre.length : Int)) := by rw [IntKind.wrap_i64]; omega
  have hbl : Blk (w1.setCell ⟨p, 1, none⟩ (.int .i64 ((pre.length : Int)))) p 133 #[.slice (some ⟨g, 0, none⟩) pre.length pre.length, .int .i64 ((pre.length : Int))] := by simpa using HB1.out.set_ 1 (.int .i64 ((pre.length : Int)))
  obtain ⟨z0, z1, e0, e1⟩ := blk2 hbl
  have hrr : Rd ((w1.setCell ⟨p, 1, none⟩ (.int .i64 ((pre.length : Int)))).drew) S 1 (.slice (some ⟨g, 0, none⟩) 0 0) 0 [] := ⟨by simp, _, _, rfl, by omega, by simp [maxLen], fun h => absurd h (by omega)⟩
  have hmm : Mod S w (w1.setCell ⟨p, 1, none⟩ (.int .i64 ((pre.length : Int)))) := (Mod.of_below HBW.out).setCell (.inl H2.out) _
  have HMM := Lib.hid hmm
  have HRR := Lib.hid hrr
  have hsz : w.heap.size ≤ (w1.setCell ⟨p, 1, none⟩ (.int .i64 ((pre.length : Int)))).heap.size := by simpa using HBW.out.size
  clear hw1 hb1 hbl hmm hrr
  simp only [List.length_nil, Int.natCast_zero, Int.ofNat_zero]
  go_wp2_with fail
  go_region_law (refine step_append_rd _ rfl (.const (.slice none 0 0)) (.tmp 35) 29 rfl w.heap.size 5 i0 _ 1 1 Try.underlying29 hi0 hz0 hz1 hz2 rfl (by omega) (.slice none 0 0) 0 [] rfl (World.ownsRow_nil _ _ _ _) (fun k => S k) (.slice (some ⟨g, 0, none⟩) 0 0) 0 [] (by simp [Act.eval, Act.put]) HRR.out (by simp) (by simp only [maxLen]; omega) (by omega) (by simpa using HBW.out.size) ?_; intro v1 w2 HA; obtain ⟨A', c', rfl⟩ := own_slice HA.own)
  all_goals
    go_wp2_with fail
    go_ret2
    simp only [Nat.zero_add, List.nil_append, Nat.add_zero] at HA
    have hk := (Bd (B0 (w1.setCell ⟨p, 1, none⟩ (.int .i64 ((pre.length : Int)))))).grown HA.grown (Nat.le_refl _) (by simp [Value.ownBlock])
    exact ⟨A', c', rfl, HA.own, HMM.out.trans (Mod.of_below (S := fun _ => False) hk) (fun _ h => h.elim), w1, w2, rfl, HBW.out, by simpa using hk⟩

set_option maxHeartbeats 2000000 in
theorem ubytes_void (S : Nat → Prop) (p : Nat)  (w : World) (hl : 0 ≤ 140737488355328) (h2 : S p) (h4 : Blk w p 133 #[.slice none 0 0, .int .i64 0]) (hU : RfAt w S p []) :
    Calls Try.prog 88 #[.pointer (some ⟨p, 0, none⟩), .int .i64 0] w fun e w' => ∃ A' c', e = .returned (.tuple #[.slice A' 0 c', .int .i64 0]) ∧ w'.ownsRow w.heap.size 5 1 (.slice A' 0 c') 0 [] ∧ Mod S w w' ∧ ∃ W W2, w' = W2 ∧ Below w.heap.size w W ∧ Below W.heap.size (W.setCell ⟨p, 1, none⟩ (.int .i64 0)) W2 := by
  obtain ⟨i0, hi0, hz0, hz1, hz2⟩ := info_parts info5
  have HB := Lib.hid h4
  have HU := Lib.hid hU
  have H2 := Lib.hid h2
  clear h4 hU h2
  go_enter Try.func88, Try.ntmps88
  go_wp2_with fail
  refine (uleft_any S p [] _ HU.out).mono ?_
  rintro e w1 ⟨rfl, hw1⟩
  have hb1 : Below w.heap.size w w1 := by obtain ⟨n, rfl⟩ := hw1; exact BdN (B0 w) n
  have HB1 := Lib.hid (HB.out.later hb1)
  have HBW := Lib.hid hb1
  obtain ⟨x0, x1, f0, f1⟩ := blk2 HB1.out
  have lp1 := HB1.out.lt
  have hk2b : IntKind.i64.wrap (0) = (0) := by rw [IntKind.wrap_i64]; omega
  have hbl : Blk (w1.setCell ⟨p, 1, none⟩ (.int .i64 (0))) p 133 #[.slice none 0 0, .int .i64 (0)] := by simpa using HB1.out.set_ 1 (.int .i64 (0))
  obtain ⟨z0, z1, e0, e1⟩ := blk2 hbl
  have hrr : Rd ((w1.setCell ⟨p, 1, none⟩ (.int .i64 (0))).drew) S 1 (.slice none 0 0) 0 [] := ⟨by simp, _, _, rfl, by omega, by simp [maxLen], fun h => absurd h (by omega)⟩
  have hmm : Mod S w (w1.setCell ⟨p, 1, none⟩ (.int .i64 (0))) := (Mod.of_below HBW.out).setCell (.inl H2.out) _
  have HMM := Lib.hid hmm
  have HRR := Lib.hid hrr
  have hsz : w.heap.size ≤ (w1.setCell ⟨p, 1, none⟩ (.int .i64 (0))).heap.size := by simpa using HBW.out.size
  clear hw1 hb1 hbl hmm hrr
  simp only [List.length_nil, Int.natCast_zero, Int.ofNat_zero]
  go_wp2_with fail
  go_region_law (refine step_append_rd _ rfl (.const (.slice none 0 0)) (.tmp 35) 29 rfl w.heap.size 5 i0 _ 1 1 Try.underlying29 hi0 hz0 hz1 hz2 rfl (by omega) (.slice none 0 0) 0 [] rfl (World.ownsRow_nil _ _ _ _) (fun k => S k) (.slice none 0 0) 0 [] (by simp [Act.eval, Act.put]) HRR.out (by simp) (by simp only [maxLen]; omega) (by omega) (by simpa using HBW.out.size) ?_; intro v1 w2 HA; obtain ⟨A', c', rfl⟩ := own_slice HA.own)
  all_goals
    go_wp2_with fail
    go_ret2
    simp only [Nat.zero_add, List.nil_append, Nat.add_zero] at HA
    have hk := (Bd (B0 (w1.setCell ⟨p, 1, none⟩ (.int .i64 (0))))).grown HA.grown (Nat.le_refl _) (by simp [Value.ownBlock])
    exact ⟨A', c', rfl, HA.own, HMM.out.trans (Mod.of_below (S := fun _ => False) hk) (fun _ h => h.elim), w1, w2, rfl, HBW.out, by simpa using hk⟩

end Go.Proofs.Ytdnbbjhickjnmaa.Wr
