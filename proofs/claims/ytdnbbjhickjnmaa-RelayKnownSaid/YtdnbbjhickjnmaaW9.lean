/- Walks: the reader's Octets (it defers a closure). -/
import Derived.Test.YtdnbbjhickjnmaaW8
import Derived.Defers
namespace Go.Proofs.Ytdnbbjhickjnmaa.Wr
open Go.RowKit
set_option linter.unusedVariables false
set_option maxRecDepth 20000
set_option linter.unusedSimpArgs false

theorem undo_no (b e q p s : Nat) (pv : Int) (u : FrameMode) (w : World) (h0 : w.cell? ⟨e, 0, none⟩ = some (.int .i64 0)) :
    CallsD Try.prog 85 #[.pointer (some ⟨e, 0, none⟩), .pointer (some ⟨q, 0, none⟩), .pointer (some ⟨b, 0, none⟩)] u w fun en u' w' => u' = u ∧ (en = .returned (.tuple #[]) ∧ w' = w) := by
  go_enter_d Try.func85, Try.ntmps85
  go_wp2
  go_end0
  exact ⟨rfl, rfl⟩

theorem undo_yes (b e q p s : Nat) (ev pv : Int) (u : FrameMode) (w : World) (h0 : w.cell? ⟨e, 0, none⟩ = some (.int .i64 ev)) (hev : (ev != 0) = true) (h1 : w.cell? ⟨q, 0, none⟩ = some (.int .i64 pv)) (h2 : w.cell? ⟨b, 0, none⟩ = some (.pointer (some ⟨p, 0, none⟩)))
    (h3 : w.cell? ⟨p, 0, none⟩ = some (.pointer (some ⟨s, 0, none⟩))) (h4 : ∃ x, w.cell? ⟨s, 1, none⟩ = some (.int .i64 x)) (h5 : w.frozen? ⟨s, 1, none⟩ = false) :
    CallsD Try.prog 85 #[.pointer (some ⟨e, 0, none⟩), .pointer (some ⟨q, 0, none⟩), .pointer (some ⟨b, 0, none⟩)] u w fun en u' w' => u' = u ∧ (en = .returned (.tuple #[]) ∧ w' = (w.setCell ⟨s, 1, none⟩ (.int .i64 pv)).drew) := by
  obtain ⟨x, h4⟩ := h4
  go_enter_d Try.func85, Try.ntmps85
  go_wp2
  go_region
  all_goals
    go_wp2
    go_end0
    exact ⟨rfl, rfl⟩

theorem get2_ok (S : Nat → Prop) (p s : Nat) (A : Option Addr) (c : Nat) (pre zs rs : List Int) (w : World) (h : RdOf w S p s A c pre (zs ++ rs)) (hb : Byt zs) (hz : zs.length = 2) :
    Calls Try.prog 63 #[.pointer (some ⟨p, 0, none⟩), .int .i64 2] w fun e w' => e = .returned (.tuple #[.int .i64 (num zs), .int .i64 0]) ∧ ∃ W, Below w.heap.size w W ∧ w' = W.setCell ⟨s, 1, none⟩ (.int .i64 ((pre.length : Int) + 2)) := by
  have hv : num zs < 9223372036854775808 := by
    have := num_lt hb
    rw [hz, p256_2] at this
    omega
  exact get_ok S p s A c pre zs rs 2 6 w h hb hz rfl (by omega) hv

set_option maxHeartbeats 1000000 in
theorem ro_limit (S : Nat → Prop) (p s : Nat) (A : Option Addr) (c : Nat) (pre zs rs : List Int) (most : Int) (w : World) (h : RdOf w S p s A c pre (zs ++ rs)) (hb : Byt zs) (hz : zs.length = 2) (hm : most < num zs) :
    Calls Try.prog 64 #[.pointer (some ⟨p, 0, none⟩), .int .i64 most] w fun e w' => e = .returned (.tuple #[.slice none 0 0, .int .i64 5]) ∧ RDid S p (zs ++ rs) w w' := by
  have hmf : ∀ (fn : Fn) (first cap : Array Value) (w : World), (Instr.makeFunc fn first cap).run Try.prog w = .ok (.func fn first cap) w := fun _ _ _ _ => rfl
  have HH := Lib.hid h
  obtain ⟨h1, hl, h2, h3, h4, h5, h6, h7⟩ := h
  have lp := h4.lt
  have ls := h5.lt
  obtain ⟨x0, f0⟩ := blk1 h4
  obtain ⟨y0, y1, g0, g1⟩ := blk2 h5
  have H4 := Lib.hid h4
  have HZ := Lib.hid (And.intro hb hz)
  clear h1 hl h2 h3 h4 h5 h6 h7 hb hz
  obtain ⟨V, hV⟩ : ∃ V, V = num zs := ⟨_, rfl⟩
  rw [← hV] at hm
  have HV := Lib.hid hV
  clear hV
  go_enter_defers Try.func64, Try.ntmps64
  go_wp2_with (first
    | (go_at_call 81; refine (rnone_any p s _ (((H4.out.alloc _).alloc _))).mono ?_; rintro e w' ⟨rfl, rfl⟩))
  refine (get2_ok S p s A c pre zs rs _ (HH.out.below (Ba (Ba (Ba (B0 w) _) _) _)) HZ.out.1 HZ.out.2).mono ?_
  rintro e w1 ⟨rfl, W, hW, hw1⟩
  have hS := fun i hi => HH.out.1 i hi
  have hr1 : RdOf w1 S p s A c (pre ++ zs) rs := by rw [hw1]; exact ((HH.out.below (Ba (Ba (Ba (B0 w) _) _) _)).below hW).moved (by simp) _ (by simp [HZ.out.2])
  have hm1 := (HH.out.below (Ba (Ba (Ba (B0 w) (.cells #[.pointer (some ⟨p, 0, none⟩)] 102)) (.cells #[.int .i64 0] 27)) (.cells #[.int .i64 pre.length] 3))).mod_ hW (.int .i64 ((pre.length : Int) + 2))
  rw [← hw1] at hm1
  clear hw1 hW
  have bb := (((Blk.new w 102 #[.pointer (some ⟨p, 0, none⟩)]).alloc (.cells #[.int .i64 0] 27)).alloc (.cells #[.int .i64 pre.length] 3)).kept hm1 (fun h => by have := hS _ h; omega)
  have be := ((Blk.new1 w (.cells #[.pointer (some ⟨p, 0, none⟩)] 102) 27 #[.int .i64 0]).alloc (.cells #[.int .i64 pre.length] 3)).kept hm1 (fun h => by have := hS _ h; omega)
  have bq := (Blk.new2 w (.cells #[.pointer (some ⟨p, 0, none⟩)] 102) (.cells #[.int .i64 0] 27) 3 #[.int .i64 pre.length]).kept hm1 (fun h => by have := hS _ h; omega)
  obtain ⟨cb, fb⟩ := blk1 bb
  obtain ⟨ce, fe⟩ := blk1 be
  obtain ⟨cq, fq⟩ := blk1 bq
  obtain ⟨x0', f0'⟩ := blk1 hr1.2.2.2.2.1
  obtain ⟨y0', y1', g0', g1'⟩ := blk2 hr1.2.2.2.2.2.1
  replace hr1 := Lib.hid hr1
  replace hm1 := Lib.hid hm1
  replace bb := Lib.hid bb
  replace be := Lib.hid be
  replace bq := Lib.hid bq
  replace hS := Lib.hid hS
  rw [← HV.out]
  have ne1 : ¬ s = w.heap.size + 1 := by omega
  have ne2 : ¬ p = w.heap.size + 1 := by omega
  go_wp2_with fail
  have hmD := ((Mod.refl (fun k => k = w.heap.size + 1) w1).setCell (p := ⟨w.heap.size + 1, 0, none⟩) (.inl rfl) (.int .i64 0)).setCell (p := ⟨w.heap.size + 1, 0, none⟩) (.inl rfl) (.int .i64 5)
  have beD : Blk ((w1.setCell ⟨w.heap.size + 1, 0, none⟩ (.int .i64 0)).setCell ⟨w.heap.size + 1, 0, none⟩ (.int .i64 5)) (w.heap.size + 1) 27 #[.int .i64 5] := by simpa using (be.out.set_ 0 (.int .i64 0)).set_ 0 (.int .i64 5)
  have bbD := bb.out.kept hmD (by omega)
  have bqD := bq.out.kept hmD (by omega)
  have hrD := hr1.out.kept hmD (fun i hi he => by have := hS.out i hi; omega)
  have hxD := blk2 hrD.2.2.2.2.2.1
  refine leaves_cons (f := 85) (args := #[.pointer (some ⟨w.heap.size + 1, 0, none⟩), .pointer (some ⟨w.heap.size + 1 + 1, 0, none⟩), .pointer (some ⟨w.heap.size, 0, none⟩)]) (by simp) (by simp [go_sem]) ?_
  refine (undo_yes w.heap.size (w.heap.size + 1) (w.heap.size + 1 + 1) p s 5 pre.length .returning _ (blk1 beD).1 rfl (blk1 bqD).1 (blk1 bbD).1 (blk1 hrD.2.2.2.2.1).1 ⟨_, hxD.2.1⟩ hxD.2.2.2).mono ?_
  rintro e u' w'' ⟨rfl, rfl, rfl⟩
  have hE := (blk1 (beD.far (p := ⟨s, 1, none⟩) (by simp; omega) (.int .i64 (pre.length : Int)))).1
  simp [Leaves, settle, results, Try.results64, go_sem, hE]
  exact ⟨((((Mod.of_below (Ba (Ba (Ba (B0 w) _) _) _)).trans hm1.out (fun i hi => .inl hi)).trans hmD (fun i hi => .inr (by omega))).setCell (.inl HH.out.2.2.2.1) _).drew, s, A, c, pre, (hrD.moved (by simp) _ rfl).below (Bd (B0 _))⟩
end Go.Proofs.Ytdnbbjhickjnmaa.Wr
