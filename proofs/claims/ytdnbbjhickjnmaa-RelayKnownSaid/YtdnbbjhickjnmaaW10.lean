/- Walks: the reader's Octets: its other ways. -/
import Derived.Test.YtdnbbjhickjnmaaW9
namespace Go.Proofs.Ytdnbbjhickjnmaa.Wr
open Go.RowKit
set_option linter.unusedVariables false
set_option maxRecDepth 20000
set_option linter.unusedSimpArgs false

set_option maxHeartbeats 1000000 in
theorem ro_short (S : Nat → Prop) (p s : Nat) (A : Option Addr) (c : Nat) (pre ys : List Int) (most : Int) (w : World) (h : RdOf w S p s A c pre ys) (hy : ys.length < 2) :
    Calls Try.prog 64 #[.pointer (some ⟨p, 0, none⟩), .int .i64 most] w fun e w' => e = .returned (.tuple #[.slice none 0 0, .int .i64 3]) ∧ RDid S p ys w w' := by
  have hmf : ∀ (fn : Fn) (first cap : Array Value) (w : World), (Instr.makeFunc fn first cap).run Try.prog w = .ok (.func fn first cap) w := fun _ _ _ _ => rfl
  have HH := Lib.hid h
  obtain ⟨h1, hl, h2, h3, h4, h5, h6, h7⟩ := h
  have lp := h4.lt
  have ls := h5.lt
  obtain ⟨x0, f0⟩ := blk1 h4
  obtain ⟨y0, y1, g0, g1⟩ := blk2 h5
  have H4 := Lib.hid h4
  clear h1 hl h2 h3 h4 h5 h6 h7
  go_enter_defers Try.func64, Try.ntmps64
  go_wp2_with (first
    | (go_at_call 81; refine (rnone_any p s _ (((H4.out.alloc _).alloc _))).mono ?_; rintro e w' ⟨rfl, rfl⟩))
  refine (get_short S p ys 2 _ ⟨_, _, _, _, HH.out.below (Ba (Ba (Ba (B0 w) _) _) _)⟩ (by omega) (by omega) (by omega)).mono ?_
  rintro e w1 ⟨rfl, hb1⟩
  have hS := fun i hi => HH.out.1 i hi
  have hr1 : RdOf w1 S p s A c pre ys := (HH.out.below (Ba (Ba (Ba (B0 w) _) _) _)).below hb1
  have bb := (((Blk.new w 102 #[.pointer (some ⟨p, 0, none⟩)]).alloc (.cells #[.int .i64 0] 27)).alloc (.cells #[.int .i64 pre.length] 3)).later hb1
  have be := ((Blk.new1 w (.cells #[.pointer (some ⟨p, 0, none⟩)] 102) 27 #[.int .i64 0]).alloc (.cells #[.int .i64 pre.length] 3)).later hb1
  have bq := (Blk.new2 w (.cells #[.pointer (some ⟨p, 0, none⟩)] 102) (.cells #[.int .i64 0] 27) 3 #[.int .i64 pre.length]).later hb1
  obtain ⟨cb, fb⟩ := blk1 bb
  obtain ⟨ce, fe⟩ := blk1 be
  obtain ⟨cq, fq⟩ := blk1 bq
  obtain ⟨x0', f0'⟩ := blk1 hr1.2.2.2.2.1
  obtain ⟨y0', y1', g0', g1'⟩ := blk2 hr1.2.2.2.2.2.1
  have hBW := Lib.hid (Bt (Ba (Ba (Ba (B0 w) _) _) _) hb1)
  replace hr1 := Lib.hid hr1
  replace bb := Lib.hid bb
  replace be := Lib.hid be
  replace bq := Lib.hid bq
  replace hS := Lib.hid hS
  clear hb1
  have ne1 : ¬ s = w.heap.size + 1 := by omega
  have ne2 : ¬ p = w.heap.size + 1 := by omega
  go_wp2_with fail
  go_region
  all_goals
    go_wp2_with fail
    have hmD := ((Mod.refl (fun k => k = w.heap.size + 1) w1).setCell (p := ⟨w.heap.size + 1, 0, none⟩) (.inl rfl) (.int .i64 3)).setCell (p := ⟨w.heap.size + 1, 0, none⟩) (.inl rfl) (.int .i64 3)
    have beD : Blk ((w1.setCell ⟨w.heap.size + 1, 0, none⟩ (.int .i64 3)).setCell ⟨w.heap.size + 1, 0, none⟩ (.int .i64 3)) (w.heap.size + 1) 27 #[.int .i64 3] := by simpa using (be.out.set_ 0 (.int .i64 3)).set_ 0 (.int .i64 3)
    have bbD := (bb.out.kept hmD (by omega)).drew
    have bqD := (bq.out.kept hmD (by omega)).drew
    have hrD := (hr1.out.kept hmD (fun i hi he => by have := hS.out i hi; omega)).below (Bd (B0 _))
    have hxD := blk2 hrD.2.2.2.2.2.1
    refine leaves_cons (f := 85) (args := #[.pointer (some ⟨w.heap.size + 1, 0, none⟩), .pointer (some ⟨w.heap.size + 1 + 1, 0, none⟩), .pointer (some ⟨w.heap.size, 0, none⟩)]) (by simp) (by simp [go_sem]) ?_
    refine (undo_yes w.heap.size (w.heap.size + 1) (w.heap.size + 1 + 1) p s 3 pre.length .returning _ (blk1 beD.drew).1 rfl (blk1 bqD).1 (blk1 bbD).1 (blk1 hrD.2.2.2.2.1).1 ⟨_, hxD.2.1⟩ hxD.2.2.2).mono ?_
    rintro e u' w'' ⟨rfl, rfl, rfl⟩
    have hE := (blk1 beD).1
    simp [Leaves, settle, results, Try.results64, go_sem, hE]
    exact ⟨(((Mod.of_below hBW.out).trans hmD (fun i hi => .inr (by omega))).drew.setCell (.inl HH.out.2.2.2.1) _).drew, s, A, c, pre, (hrD.moved (by simp) _ rfl).below (Bd (B0 _))⟩

set_option maxHeartbeats 1000000 in
theorem ro_long (S : Nat → Prop) (p s : Nat) (A : Option Addr) (c : Nat) (pre zs rs : List Int) (most : Int) (w : World) (h : RdOf w S p s A c pre (zs ++ rs)) (hb : Byt zs) (hz : zs.length = 2) (hm : num zs ≤ most) (hn : (rs.length : Int) < num zs) :
    Calls Try.prog 64 #[.pointer (some ⟨p, 0, none⟩), .int .i64 most] w fun e w' => e = .returned (.tuple #[.slice none 0 0, .int .i64 3]) ∧ RDid S p (zs ++ rs) w w' := by
  have hmf : ∀ (fn : Fn) (first cap : Array Value) (w : World), (Instr.makeFunc fn first cap).run Try.prog w = .ok (.func fn first cap) w := fun _ _ _ _ => rfl
  have HH := Lib.hid h
  obtain ⟨h1, hl, h2, h3, h4, h5, h6, h7⟩ := h
  have lp := h4.lt
  have ls := h5.lt
  obtain ⟨x0, f0⟩ := blk1 h4
  obtain ⟨y0, y1, g0, g1⟩ := blk2 h5
  have H4 := Lib.hid h4
  have HZ := Lib.hid (And.intro hb hz)
  clear h1 hl h2 h3 h4 h5 h6 h7 hb hz
  obtain ⟨V, hV⟩ : ∃ V, V = num zs := ⟨_, rfl⟩
  rw [← hV] at hm hn
  have hV0 : 0 ≤ V := by rw [hV]; exact num_nonneg HZ.out.1
  have hbe : bytE rs V = 3 := by simp [bytE, hn]; omega
  have HBE := Lib.hid hbe
  clear hbe
  have HV := Lib.hid hV
  clear hV
  go_enter_defers Try.func64, Try.ntmps64
  go_wp2_with (first
    | (go_at_call 81; refine (rnone_any p s _ (((H4.out.alloc _).alloc _))).mono ?_; rintro e w' ⟨rfl, rfl⟩))
  refine (get2_ok S p s A c pre zs rs _ (HH.out.below (Ba (Ba (Ba (B0 w) _) _) _)) HZ.out.1 HZ.out.2).mono ?_
  rintro e w1 ⟨rfl, W, hW, hw1⟩
  have hS := fun i hi => HH.out.1 i hi
  have hr1 : RdOf w1 S p s A c (pre ++ zs) rs := by rw [hw1]; exact ((HH.out.below (Ba (Ba (Ba (B0 w) _) _) _)).below hW).moved (by simp) _ (by simp [HZ.out.2])
  have hm1 := (HH.out.below (Ba (Ba (Ba (B0 w) (.cells #[.pointer (some ⟨p, 0, none⟩)] 102)) (.cells #[.int .i64 0] 27)) (.cells #[.int .i64 pre.length] 3))).mod_ hW (.int .i64 ((pre.length : Int) + 2))
  rw [← hw1] at hm1
  clear hw1 hW
  have bb := (((Blk.new w 102 #[.pointer (some ⟨p, 0, none⟩)]).alloc (.cells #[.int .i64 0] 27)).alloc (.cells #[.int .i64 pre.length] 3)).kept hm1 (fun h => by have := hS _ h; omega)
  have be := ((Blk.new1 w (.cells #[.pointer (some ⟨p, 0, none⟩)] 102) 27 #[.int .i64 0]).alloc (.cells #[.int .i64 pre.length] 3)).kept hm1 (fun h => by have := hS _ h; omega)
  have bq := (Blk.new2 w (.cells #[.pointer (some ⟨p, 0, none⟩)] 102) (.cells #[.int .i64 0] 27) 3 #[.int .i64 pre.length]).kept hm1 (fun h => by have := hS _ h; omega)
  obtain ⟨cb, fb⟩ := blk1 bb
  obtain ⟨ce, fe⟩ := blk1 be
  obtain ⟨cq, fq⟩ := blk1 bq
  obtain ⟨x0', f0'⟩ := blk1 hr1.2.2.2.2.1
  obtain ⟨y0', y1', g0', g1'⟩ := blk2 hr1.2.2.2.2.2.1
  replace hr1 := Lib.hid hr1
  replace hm1 := Lib.hid hm1
  replace bb := Lib.hid bb
  replace be := Lib.hid be
  replace bq := Lib.hid bq
  replace hS := Lib.hid hS
  rw [← HV.out]
  have ne1 : ¬ s = w.heap.size + 1 := by omega
  have ne2 : ¬ p = w.heap.size + 1 := by omega
  go_wp2_with fail
  have hmC := (Mod.refl (fun k => k = w.heap.size + 1) w1).setCell (p := ⟨w.heap.size + 1, 0, none⟩) (.inl rfl) (.int .i64 0)
  refine (rbytes_bad S p rs V _ ⟨_, _, _, _, hr1.out.kept hmC (fun i hi he => by have := hS.out i hi; omega)⟩ (by rw [HBE.out]; omega)).mono ?_
  rintro e w2 ⟨rfl, hw2⟩
  rw [HBE.out]
  have hm2 : Mod (fun k => k = w.heap.size + 1) w1 w2 := by obtain ⟨n, rfl⟩ := hw2; exact hmC.drewN n
  have be2 : Blk w2 (w.heap.size + 1) 27 #[.int .i64 0] := by obtain ⟨n, rfl⟩ := hw2; simpa using (be.out.set_ 0 (.int .i64 0)).drewN n
  have bb2 := bb.out.kept hm2 (by omega)
  have bq2 := bq.out.kept hm2 (by omega)
  have hr2 := hr1.out.kept hm2 (fun i hi he => by have := hS.out i hi; omega)
  clear hw2 hmC
  obtain ⟨cb2, fb2⟩ := blk1 bb2
  obtain ⟨ce2, fe2⟩ := blk1 be2
  replace hr2 := Lib.hid hr2
  replace hm2 := Lib.hid hm2
  replace bb2 := Lib.hid bb2
  replace be2 := Lib.hid be2
  replace bq2 := Lib.hid bq2
  go_wp2_with fail
  have hmD := (Mod.refl (fun k => k = w.heap.size + 1) w2).setCell (p := ⟨w.heap.size + 1, 0, none⟩) (.inl rfl) (.int .i64 3)
  have beD : Blk (w2.setCell ⟨w.heap.size + 1, 0, none⟩ (.int .i64 3)) (w.heap.size + 1) 27 #[.int .i64 3] := by simpa using be2.out.set_ 0 (.int .i64 3)
  have bbD := bb2.out.kept hmD (by omega)
  have bqD := bq2.out.kept hmD (by omega)
  have hrD := hr2.out.kept hmD (fun i hi he => by have := hS.out i hi; omega)
  have hxD := blk2 hrD.2.2.2.2.2.1
  refine leaves_cons (f := 85) (args := #[.pointer (some ⟨w.heap.size + 1, 0, none⟩), .pointer (some ⟨w.heap.size + 1 + 1, 0, none⟩), .pointer (some ⟨w.heap.size, 0, none⟩)]) (by simp) (by simp [go_sem]) ?_
  refine (undo_yes w.heap.size (w.heap.size + 1) (w.heap.size + 1 + 1) p s 3 pre.length .returning _ (blk1 beD).1 rfl (blk1 bqD).1 (blk1 bbD).1 (blk1 hrD.2.2.2.2.1).1 ⟨_, hxD.2.1⟩ hxD.2.2.2).mono ?_
  rintro e u' w'' ⟨rfl, rfl, rfl⟩
  have hE := (blk1 (beD.far (p := ⟨s, 1, none⟩) (by simp; omega) (.int .i64 (pre.length : Int)))).1
  simp [Leaves, settle, results, Try.results64, go_sem, hE]
  exact ⟨(((((Mod.of_below (Ba (Ba (Ba (B0 w) _) _) _)).trans hm1.out (fun i hi => .inl hi)).trans hm2.out (fun i hi => .inr (by omega))).trans hmD (fun i hi => .inr (by omega))).setCell (.inl HH.out.2.2.2.1) _).drew, s, A, c, pre, (hrD.moved (by simp) _ rfl).below (Bd (B0 _))⟩

set_option maxHeartbeats 1000000 in
theorem ro_ok (S : Nat → Prop) (p s : Nat) (A : Option Addr) (c : Nat) (pre zs us rs : List Int) (most : Int) (w : World) (h : RdOf w S p s A c pre (zs ++ (us ++ rs))) (hb : Byt zs) (hz : zs.length = 2) (hm : num zs ≤ most) (hn : (us.length : Int) = num zs) :
    Calls Try.prog 64 #[.pointer (some ⟨p, 0, none⟩), .int .i64 most] w fun e w' => ∃ A' c', e = .returned (.tuple #[.slice A' us.length c', .int .i64 0]) ∧ w'.ownsRow w.heap.size 5 1 (.slice A' us.length c') us.length (bts us) ∧ RDid S p rs w w' := by
  have hmf : ∀ (fn : Fn) (first cap : Array Value) (w : World), (Instr.makeFunc fn first cap).run Try.prog w = .ok (.func fn first cap) w := fun _ _ _ _ => rfl
  have HH := Lib.hid h
  obtain ⟨h1, hl, h2, h3, h4, h5, h6, h7⟩ := h
  have lp := h4.lt
  have ls := h5.lt
  obtain ⟨x0, f0⟩ := blk1 h4
  obtain ⟨y0, y1, g0, g1⟩ := blk2 h5
  have H4 := Lib.hid h4
  have HZ := Lib.hid (And.intro hb hz)
  clear h1 hl h2 h3 h4 h5 h6 h7 hb hz
  obtain ⟨V, hV⟩ : ∃ V, V = num zs := ⟨_, rfl⟩
  rw [← hV] at hm hn
  rw [← hn] at hm
  have HN := Lib.hid hn
  clear hn
  have HV := Lib.hid hV
  clear hV
  go_enter_defers Try.func64, Try.ntmps64
  go_wp2_with (first
    | (go_at_call 81; refine (rnone_any p s _ (((H4.out.alloc _).alloc _))).mono ?_; rintro e w' ⟨rfl, rfl⟩))
  refine (get2_ok S p s A c pre zs (us ++ rs) _ (HH.out.below (Ba (Ba (Ba (B0 w) _) _) _)) HZ.out.1 HZ.out.2).mono ?_
  rintro e w1 ⟨rfl, W, hW, hw1⟩
  have hS := fun i hi => HH.out.1 i hi
  have hr1 : RdOf w1 S p s A c (pre ++ zs) (us ++ rs) := by rw [hw1]; exact ((HH.out.below (Ba (Ba (Ba (B0 w) _) _) _)).below hW).moved (by simp) _ (by simp [HZ.out.2])
  have hm1 := (HH.out.below (Ba (Ba (Ba (B0 w) (.cells #[.pointer (some ⟨p, 0, none⟩)] 102)) (.cells #[.int .i64 0] 27)) (.cells #[.int .i64 pre.length] 3))).mod_ hW (.int .i64 ((pre.length : Int) + 2))
  rw [← hw1] at hm1
  clear hw1 hW
  have bb := (((Blk.new w 102 #[.pointer (some ⟨p, 0, none⟩)]).alloc (.cells #[.int .i64 0] 27)).alloc (.cells #[.int .i64 pre.length] 3)).kept hm1 (fun h => by have := hS _ h; omega)
  have be := ((Blk.new1 w (.cells #[.pointer (some ⟨p, 0, none⟩)] 102) 27 #[.int .i64 0]).alloc (.cells #[.int .i64 pre.length] 3)).kept hm1 (fun h => by have := hS _ h; omega)
  have bq := (Blk.new2 w (.cells #[.pointer (some ⟨p, 0, none⟩)] 102) (.cells #[.int .i64 0] 27) 3 #[.int .i64 pre.length]).kept hm1 (fun h => by have := hS _ h; omega)
  obtain ⟨cb, fb⟩ := blk1 bb
  obtain ⟨ce, fe⟩ := blk1 be
  obtain ⟨cq, fq⟩ := blk1 bq
  obtain ⟨x0', f0'⟩ := blk1 hr1.2.2.2.2.1
  obtain ⟨y0', y1', g0', g1'⟩ := blk2 hr1.2.2.2.2.2.1
  replace hr1 := Lib.hid hr1
  replace hm1 := Lib.hid hm1
  replace bb := Lib.hid bb
  replace be := Lib.hid be
  replace bq := Lib.hid bq
  replace hS := Lib.hid hS
  rw [← HV.out, ← HN.out]
  have ne1 : ¬ s = w.heap.size + 1 := by omega
  have ne2 : ¬ p = w.heap.size + 1 := by omega
  go_wp2_with fail
  have hmC := (Mod.refl (fun k => k = w.heap.size + 1) w1).setCell (p := ⟨w.heap.size + 1, 0, none⟩) (.inl rfl) (.int .i64 0)
  have hrC := hr1.out.kept hmC (fun i hi he => by have := hS.out i hi; omega)
  have beC : Blk (w1.setCell ⟨w.heap.size + 1, 0, none⟩ (.int .i64 0)) (w.heap.size + 1) 27 #[.int .i64 0] := by simpa using be.out.set_ 0 (.int .i64 0)
  refine (rbytes_ok S p s A c (pre ++ zs) us rs _ hrC).mono ?_
  rintro e w2 ⟨A', c', W, rfl, hf, hw2⟩
  have hs2 := own_ne_blk hf.own (hrC.2.2.2.2.2.1.later hf.kept) (by decide)
  have hmW : Mod S (w1.setCell ⟨w.heap.size + 1, 0, none⟩ (.int .i64 0)) w2 := by rw [hw2]; exact (Mod.of_below hf.kept).setCell (.inl HH.out.2.2.2.1) _
  have hr2 : RdOf w2 S p s A c (pre ++ zs ++ us) rs := by rw [hw2]; exact (hrC.below hf.kept).moved (by simp) _ (by simp; omega)
  have ho2 := own_mod (base' := w.heap.size) hf.own ((Mod.refl (fun k => k = s) W).setCell (p := ⟨s, 1, none⟩) (.inl rfl) (.int .i64 (((pre ++ zs).length : Int) + us.length))) (fun k hk he => by subst he; exact hs2 hk) (by have h1 := hm1.out.size; simp at h1 ⊢; omega)
  rw [← hw2] at ho2
  have hmw2 := ((((Mod.of_below (S := S) (Ba (Ba (Ba (B0 w) _) _) _)).trans hm1.out (fun i hi => .inl hi)).trans hmC (fun i hi => .inr (by omega))).trans hmW (fun i hi => .inl hi))
  have be2 := beC.kept hmW (fun h => by have := hS.out _ h; omega)
  obtain ⟨ce2, fe2⟩ := blk1 be2
  replace hr2 := Lib.hid hr2
  replace hmw2 := Lib.hid hmw2
  replace be2 := Lib.hid be2
  replace ho2 := Lib.hid ho2
  clear hw2 hmC hrC beC hf hmW hs2
  go_wp2_with fail
  have hmD := (Mod.refl (fun k => k = w.heap.size + 1) w2).setCell (p := ⟨w.heap.size + 1, 0, none⟩) (.inl rfl) (.int .i64 0)
  have beD : Blk (w2.setCell ⟨w.heap.size + 1, 0, none⟩ (.int .i64 0)) (w.heap.size + 1) 27 #[.int .i64 0] := by simpa using be2.out.set_ 0 (.int .i64 0)
  have hrD := hr2.out.kept hmD (fun i hi he => by have := hS.out i hi; omega)
  refine leaves_cons (f := 85) (args := #[.pointer (some ⟨w.heap.size + 1, 0, none⟩), .pointer (some ⟨w.heap.size + 1 + 1, 0, none⟩), .pointer (some ⟨w.heap.size, 0, none⟩)]) (by simp) (by simp [go_sem]) ?_
  refine (undo_no w.heap.size (w.heap.size + 1) (w.heap.size + 1 + 1) p s pre.length .returning _ (blk1 beD).1).mono ?_
  rintro e u' w'' ⟨rfl, rfl, rfl⟩
  have hE := (blk1 beD).1
  have hfin : (w2.setCell ⟨w.heap.size + 1, 0, none⟩ (.int .i64 0)).ownsRow w.heap.size 5 1 (.slice A' us.length c') us.length (bts us) ∧ RDid S p rs w (w2.setCell ⟨w.heap.size + 1, 0, none⟩ (.int .i64 0)) :=
    ⟨own_mod ho2.out hmD (fun k hk he => by subst he; exact own_ne_blk ho2.out be2.out (by decide) hk) (Nat.le_refl _), hmw2.out.trans hmD (fun i hi => .inr (by omega)), s, A, c, _, hrD⟩
  simp [Leaves, settle, results, Try.results64, go_sem, hE]
  exact ⟨A', c', ⟨rfl, rfl⟩, hfin⟩
end Go.Proofs.Ytdnbbjhickjnmaa.Wr
