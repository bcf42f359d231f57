/- The document's Unpack. -/
import Derived.Test.YtdnbbjhickjnmaaV4
namespace Go.Proofs.Ytdnbbjhickjnmaa
open Go.RowKit
set_option maxRecDepth 20000
set_option linter.unusedVariables false
set_option linter.unusedSimpArgs false

set_option maxHeartbeats 2000000 in
theorem refun_0 (T : Nat → Prop) (A : Option Addr) (c : Nat) (w : World) (hr : Rd w T 1 (.slice A ([] : List Int).length c) ([] : List Int).length (bts ([] : List Int))) (hT : ∀ i, T i → i < w.heap.size) (hb : Byt ([] : List Int)) :
    Calls Try.prog 44 #[.slice A ([] : List Int).length c] w (UnDid ([] : List Int) w) := by
  have HR := Lib.hid hr
  have HBY := Lib.hid hb
  have HG := Lib.hid get_none
  clear hr hb
  go_enter Try.func44, Try.ntmps44
  go_wp2_with fail
  refine (Wr.unew_any T A c _ _ (HR.out.below (Ba (B0 w) _) hT) (fun i hi => Nat.lt_of_lt_of_le (hT i hi) (by simp)) (by simp)).mono ?_
  rintro e w1 ⟨r, S, rfl, hR, hb1, hS1⟩
  have hSw : ∀ i, S i → w.heap.size + 1 ≤ i := fun i hi => by have := hS1 i hi; simpa using this
  have HS := Lib.hid (And.intro hSw hR.1)
  have BR1 := Lib.hid ((Blk.new w 31 #[.int .i64 0, .int .i64 0, .slice none 0 0]).later hb1)
  have HW1 := Lib.hid (Bt (Ba (B0 w) (.cells #[.int .i64 0, .int .i64 0, .slice none 0 0] 31)) hb1)
  have HRR1 := Lib.hid hR
  clear hS1 hb1 hR hSw
  go_wp2_with fail
  refine (Wr.uget_any S r _ 1 _ HRR1.out (by exact HBY.out)).mono ?_
  rintro e w2 ⟨rfl, hm, hr2⟩
  rw [HG.out.2.1, HG.out.1]
  rw [HG.out.2.2] at hr2
  have HRR2 := Lib.hid hr2
  have BR2 := Lib.hid (BR1.out.kept hm (fun h => by have := HS.out.1 _ h; omega))
  have HW2 := Lib.hid (Bm HW1.out hm (fun i hi => Nat.le_of_succ_le (HS.out.1 i hi)))
  have lR2 := BR2.out.lt
  clear hm hr2
  obtain ⟨y0, y1, y2, v0, v1, v2⟩ := blk3 BR2.out
  go_wp2_with fail
  obtain ⟨x0, x1, x2, _⟩ := blk3 (BR2.out.set3 (.int .i64 0) (.int .i64 0) (.slice none 0 0))
  refine bodyPost_ret (v := .tuple #[.agg #[.int .i64 0, .int .i64 0, .slice none 0 0], .int .i64 3]) (by simp [results, Try.results44, go_sem, x0, x1, x2]) rfl ?_
  exact UnDid.bad (by rfl) (by decide) (Bs (Bs (Bs HW2.out (by simp) _) (by simp) _) (by simp) _)
set_option maxHeartbeats 2000000 in
theorem refun_1 (T : Nat → Prop) (A : Option Addr) (c : Nat) (f : Int) (w : World) (hr : Rd w T 1 (.slice A [f].length c) [f].length (bts [f])) (hT : ∀ i, T i → i < w.heap.size) (hb : Byt [f]) :
    Calls Try.prog 44 #[.slice A [f].length c] w (UnDid [f] w) := by
  have HR := Lib.hid hr
  have HBY := Lib.hid hb
  have HG := Lib.hid (get_one f [] hb)
  have HG2 := Lib.hid get_none
  clear hr hb
  go_enter Try.func44, Try.ntmps44
  go_wp2_with fail
  refine (Wr.unew_any T A c _ _ (HR.out.below (Ba (B0 w) _) hT) (fun i hi => Nat.lt_of_lt_of_le (hT i hi) (by simp)) (by simp)).mono ?_
  rintro e w1 ⟨r, S, rfl, hR, hb1, hS1⟩
  have hSw : ∀ i, S i → w.heap.size + 1 ≤ i := fun i hi => by have := hS1 i hi; simpa using this
  have HS := Lib.hid (And.intro hSw hR.1)
  have BR1 := Lib.hid ((Blk.new w 31 #[.int .i64 0, .int .i64 0, .slice none 0 0]).later hb1)
  have HW1 := Lib.hid (Bt (Ba (B0 w) (.cells #[.int .i64 0, .int .i64 0, .slice none 0 0] 31)) hb1)
  have HRR1 := Lib.hid hR
  clear hS1 hb1 hR hSw
  go_wp2_with fail
  refine (Wr.uget_any S r _ 1 _ HRR1.out (by exact HBY.out)).mono ?_
  rintro e w2 ⟨rfl, hm, hr2⟩
  rw [HG.out.2.1, HG.out.1]
  rw [HG.out.2.2] at hr2
  have HRR2 := Lib.hid hr2
  have BR2 := Lib.hid (BR1.out.kept hm (fun h => by have := HS.out.1 _ h; omega))
  have HW2 := Lib.hid (Bm HW1.out hm (fun i hi => Nat.le_of_succ_le (HS.out.1 i hi)))
  have lR2 := BR2.out.lt
  clear hm hr2
  go_wp2_with fail
  refine (Wr.uget_any S r _ 1 _ HRR2.out (by intro x hx; simp at hx)).mono ?_
  rintro e w3 ⟨rfl, hm, hr3⟩
  rw [HG2.out.2.1, HG2.out.1]
  rw [HG2.out.2.2] at hr3
  have HRR3 := Lib.hid hr3
  have BR3 := Lib.hid (BR2.out.kept hm (fun h => by have := HS.out.1 _ h; omega))
  have HW3 := Lib.hid (Bm HW2.out hm (fun i hi => Nat.le_of_succ_le (HS.out.1 i hi)))
  have lR3 := BR3.out.lt
  clear hm hr3
  obtain ⟨y0, y1, y2, v0, v1, v2⟩ := blk3 BR3.out
  go_wp2_with fail
  obtain ⟨x0, x1, x2, _⟩ := blk3 (BR3.out.set3 (.int .i64 0) (.int .i64 0) (.slice none 0 0))
  refine bodyPost_ret (v := .tuple #[.agg #[.int .i64 0, .int .i64 0, .slice none 0 0], .int .i64 3]) (by simp [results, Try.results44, go_sem, x0, x1, x2]) rfl ?_
  exact UnDid.bad (by rfl) (by decide) (Bs (Bs (Bs HW3.out (by simp) _) (by simp) _) (by simp) _)
set_option maxHeartbeats 2000000 in
theorem refun_2 (T : Nat → Prop) (A : Option Addr) (c : Nat) (f t : Int) (rs : List Int) (w : World) (hr : Rd w T 1 (.slice A (f :: t :: rs).length c) (f :: t :: rs).length (bts (f :: t :: rs))) (hT : ∀ i, T i → i < w.heap.size) (hb : Byt (f :: t :: rs)) (hl : (f :: t :: rs).length ≤ 140737488351232) :
    Calls Try.prog 44 #[.slice A (f :: t :: rs).length c] w (UnDid (f :: t :: rs) w) := by
  have HR := Lib.hid hr
  have HBY := Lib.hid hb
  have HG := Lib.hid (get_one f (t :: rs) hb)
  have HG2 := Lib.hid (get_one t rs (fun x hx => HBY.out x (by simp only [List.mem_cons] at hx ⊢; exact .inr hx)))
  clear hr hb
  go_enter Try.func44, Try.ntmps44
  go_wp2_with fail
  refine (Wr.unew_any T A c _ _ (HR.out.below (Ba (B0 w) _) hT) (fun i hi => Nat.lt_of_lt_of_le (hT i hi) (by simp)) (by omega)).mono ?_
  rintro e w1 ⟨r, S, rfl, hR, hb1, hS1⟩
  have hSw : ∀ i, S i → w.heap.size + 1 ≤ i := fun i hi => by have := hS1 i hi; simpa using this
  have HS := Lib.hid (And.intro hSw hR.1)
  have BR1 := Lib.hid ((Blk.new w 31 #[.int .i64 0, .int .i64 0, .slice none 0 0]).later hb1)
  have HW1 := Lib.hid (Bt (Ba (B0 w) (.cells #[.int .i64 0, .int .i64 0, .slice none 0 0] 31)) hb1)
  have HRR1 := Lib.hid hR
  clear hS1 hb1 hR hSw
  go_wp2_with fail
  refine (Wr.uget_any S r _ 1 _ HRR1.out (by exact HBY.out)).mono ?_
  rintro e w2 ⟨rfl, hm, hr2⟩
  rw [HG.out.2.1, HG.out.1]
  rw [HG.out.2.2] at hr2
  have HRR2 := Lib.hid hr2
  have BR2 := Lib.hid (BR1.out.kept hm (fun h => by have := HS.out.1 _ h; omega))
  have HW2 := Lib.hid (Bm HW1.out hm (fun i hi => Nat.le_of_succ_le (HS.out.1 i hi)))
  have lR2 := BR2.out.lt
  clear hm hr2
  go_wp2_with fail
  refine (Wr.uget_any S r _ 1 _ HRR2.out (by exact fun x hx => HBY.out x (by simp only [List.mem_cons] at hx ⊢; exact .inr hx))).mono ?_
  rintro e w3 ⟨rfl, hm, hr3⟩
  rw [HG2.out.2.1, HG2.out.1]
  rw [HG2.out.2.2] at hr3
  have HRR3 := Lib.hid hr3
  have BR3 := Lib.hid (BR2.out.kept hm (fun h => by have := HS.out.1 _ h; omega))
  have HW3 := Lib.hid (Bm HW2.out hm (fun i hi => Nat.le_of_succ_le (HS.out.1 i hi)))
  have lR3 := BR3.out.lt
  clear hm hr3
  go_wp2_with fail
  refine (Wr.uoctets_any S r rs 4608 w3 HRR3.out (fun x hx => HBY.out x (by simp [hx]))).mono ?_
  rintro e w4 ⟨A6, c6, rfl, ho6, hm6, hr6⟩
  obtain ⟨V, hV⟩ : ∃ V, V = Wr.roV rs 4608 := ⟨_, rfl⟩
  obtain ⟨E, hE⟩ : ∃ E, E = Wr.roE rs 4608 := ⟨_, rfl⟩
  obtain ⟨L, hL⟩ : ∃ L, L = Wr.roL rs 4608 := ⟨_, rfl⟩
  rw [← hV] at ho6 ⊢
  rw [← hE]
  rw [← hL] at hr6
  have HVE := Lib.hid (And.intro hV (And.intro hE hL))
  have HO4 := Lib.hid ho6
  have HRR4 := Lib.hid hr6
  have BR4 := Lib.hid (BR3.out.kept hm6 (fun h => by have := HS.out.1 _ h; omega))
  have HW4 := Lib.hid (Bm HW3.out hm6 (fun i hi => Nat.le_of_succ_le (HS.out.1 i hi)))
  have lw3 := HW3.out.size
  have lR4 := BR4.out.lt
  clear hV hE hL ho6 hr6 hm6
  by_cases hE0 : E = 0
  · subst hE0
    go_wp2_with fail
    refine (Wr.uleft_any S r L w4 HRR4.out).mono ?_
    rintro e w5 ⟨rfl, hw5⟩
    have hb5 : Below w4.heap.size w4 w5 := by obtain ⟨n, rfl⟩ := hw5; exact BdN (B0 _) n
    have BR5 := Lib.hid (BR4.out.later hb5)
    have HW5 := Lib.hid (Bt HW4.out hb5)
    have HO5 := Lib.hid (own_below HO4.out hb5)
    have lR5 := BR5.out.lt
    clear hw5 hb5
    by_cases hL0 : L = []
    · have HL0 := Lib.hid hL0
      have hl0 : L.length = 0 := by rw [hL0]; rfl
      have hl1 : ¬ (0 : Int) < (L.length : Int) := by omega
      have HLL := Lib.hid hl0
      clear hL0 hl0
      go_wp2_with fail
      have BF6 := Lib.hid (Blk.new w5 31 #[.int .i64 f, .int .i64 t, .slice A6 V.length c6])
      have BR6 := Lib.hid (BR5.out.alloc (.cells #[.int .i64 f, .int .i64 t, .slice A6 V.length c6] 31))
      have HW6 := Lib.hid (Ba HW5.out (.cells #[.int .i64 f, .int .i64 t, .slice A6 V.length c6] 31))
      have HO6 := Lib.hid (HO5.out.alloc (.cells #[.int .i64 f, .int .i64 t, .slice A6 V.length c6] 31))
      generalize hw6 : w5.alloc (.cells #[.int .i64 f, .int .i64 t, .slice A6 V.length c6] 31) = w6 at *
      clear hw6
      have lF6 := BF6.out.lt
      refine (refcheck_any f t A6 V.length c6 w6).mono ?_
      rintro e w7 ⟨rfl, hb7⟩
      have BR7 := Lib.hid (BR6.out.later hb7)
      have BF7 := Lib.hid (BF6.out.later hb7)
      have HW7 := Lib.hid (Bt HW6.out hb7)
      have HO7 := Lib.hid (own_below HO6.out hb7)
      have lR7 := BR7.out.lt
      have lF7 := BF7.out.lt
      clear hb7
      obtain ⟨E, hE⟩ : ∃ E, E = chkE f t V.length := ⟨_, rfl⟩
      rw [← hE]
      have HE := Lib.hid hE
      clear hE
      obtain ⟨u0, u1, u2, t0, t1, t2⟩ := blk3 BF7.out
      have hqw : w.heap.size < w5.heap.size := lR5
      by_cases hE0 : E = 0
      · subst hE0
        obtain ⟨y0, y1, y2, v0, v1, v2⟩ := blk3 BR7.out
        go_wp2_with fail
        obtain ⟨x0, x1, x2, _⟩ := blk3 (BR7.out.set3 (.int .i64 f) (.int .i64 t) (.slice A6 V.length c6))
        refine bodyPost_ret (v := .tuple #[.agg #[.int .i64 f, .int .i64 t, .slice A6 V.length c6], .int .i64 0]) (by simp [results, Try.results44, go_sem, x0, x1, x2]) rfl ?_
        have he : unE (f :: t :: rs) = 0 := by simp only [unE]; rw [if_pos HVE.out.2.1.symm, if_pos (HVE.out.2.2.symm.trans HL0.out), ← HVE.out.1]; exact HE.out.symm
        have h1 : unF (f :: t :: rs) = f := by unfold unF; rw [if_pos he]; rfl
        have h2 : unT (f :: t :: rs) = t := by unfold unT; rw [if_pos he]; rfl
        have h3 : unB (f :: t :: rs) = V := by unfold unB; rw [if_pos he]; exact HVE.out.1.symm
        refine ⟨A6, c6, by rw [h1, h2, h3, he], ?_, Bs (Bs (Bs HW7.out (by simp) _) (by simp) _) (by simp) _⟩
        rw [h3]
        exact own_mod HO7.out ((((Mod.refl (fun i => i = w.heap.size) w7).setCell (p := ⟨w.heap.size, 0, none⟩) (.inl rfl) _).setCell (p := ⟨w.heap.size, 1, none⟩) (.inl rfl) _).setCell (p := ⟨w.heap.size, 2, none⟩) (.inl rfl) _) (fun i hi h => own_ne_blk HO7.out BR7.out (by decide) (by rw [hi, h])) lw3
      · have hEq : (E == 0) = false := by simp [hE0]
        have hEn : (E != 0) = true := by simp [hE0]
        have HE0 := Lib.hid hE0
        clear hE0
        obtain ⟨y0, y1, y2, v0, v1, v2⟩ := blk3 BR7.out
        go_wp2_with fail
        obtain ⟨x0, x1, x2, _⟩ := blk3 (BR7.out.set3 (.int .i64 0) (.int .i64 0) (.slice none 0 0))
        refine bodyPost_ret (v := .tuple #[.agg #[.int .i64 0, .int .i64 0, .slice none 0 0], .int .i64 E]) (by simp [results, Try.results44, go_sem, x0, x1, x2]) rfl ?_
        exact UnDid.bad (by simp only [unE]; rw [if_pos HVE.out.2.1.symm, if_pos (HVE.out.2.2.symm.trans HL0.out), ← HVE.out.1]; exact HE.out.symm) HE0.out (Bs (Bs (Bs HW7.out (by simp) _) (by simp) _) (by simp) _)
    · have HL0 := Lib.hid hL0
      have hl1 : (0 : Int) < (L.length : Int) := by have := List.length_pos_iff.2 hL0; omega
      clear hL0
      obtain ⟨y0, y1, y2, v0, v1, v2⟩ := blk3 BR5.out
      go_wp2_with fail
      obtain ⟨x0, x1, x2, _⟩ := blk3 (BR5.out.set3 (.int .i64 0) (.int .i64 0) (.slice none 0 0))
      refine bodyPost_ret (v := .tuple #[.agg #[.int .i64 0, .int .i64 0, .slice none 0 0], .int .i64 4]) (by simp [results, Try.results44, go_sem, x0, x1, x2]) rfl ?_
      exact UnDid.bad (by simp only [unE]; rw [if_pos HVE.out.2.1.symm, if_neg (fun h => HL0.out (HVE.out.2.2.trans h))]) (by decide) (Bs (Bs (Bs HW5.out (by simp) _) (by simp) _) (by simp) _)
  · have hEq : (E == 0) = false := by simp [hE0]
    have hEn : (E != 0) = true := by simp [hE0]
    have HE0 := Lib.hid hE0
    clear hE0
    obtain ⟨y0, y1, y2, v0, v1, v2⟩ := blk3 BR4.out
    go_wp2_with fail
    obtain ⟨x0, x1, x2, _⟩ := blk3 (BR4.out.set3 (.int .i64 0) (.int .i64 0) (.slice none 0 0))
    refine bodyPost_ret (v := .tuple #[.agg #[.int .i64 0, .int .i64 0, .slice none 0 0], .int .i64 E]) (by simp [results, Try.results44, go_sem, x0, x1, x2]) rfl ?_
    exact UnDid.bad (by simp only [unE]; rw [if_neg (fun h => HE0.out (HVE.out.2.1.trans h))]; exact HVE.out.2.1.symm) HE0.out (Bs (Bs (Bs HW4.out (by simp) _) (by simp) _) (by simp) _)

theorem refun_any (T : Nat → Prop) (A : Option Addr) (c : Nat) (ys : List Int) (w : World) (hr : Rd w T 1 (.slice A ys.length c) ys.length (bts ys)) (hT : ∀ i, T i → i < w.heap.size) (hb : Byt ys) (hl : ys.length ≤ 140737488351232) :
    Calls Try.prog 44 #[.slice A ys.length c] w (UnDid ys w) := by
  match ys, hr, hb, hl with
  | [], hr, hb, hl => exact refun_0 T A c w hr hT hb
  | [f], hr, hb, hl => exact refun_1 T A c f w hr hT hb
  | f :: t :: rs, hr, hb, hl => exact refun_2 T A c f t rs w hr hT hb hl
end Go.Proofs.Ytdnbbjhickjnmaa
