/- The reference's lane: See, Put. -/
import Derived.Test.YtekedgokmmkplaaH1
namespace Go.Proofs.Ytekedgokmmkplaa
open Go.RowKit
set_option maxRecDepth 20000
set_option linter.unusedVariables false
set_option linter.unusedSimpArgs false

set_option maxHeartbeats 1000000 in
theorem rlsee_in (p k : Nat) (l : List Item) (A : Option Addr) (c : Nat) (T : Nat → Prop) (cs : Array Value) (w : World) (hb : Blk w p 39 cs) (h0 : cs[0]? = some (.slice A l.length c)) (ho : w.ownsRow 0 30 3 (.slice A l.length c) l.length (rowOf l)) (hk : k < l.length) (hn : l.length ≤ 4096)
    (hx : (l[k]).ok w T) (hT : ∀ i, T i → i < w.heap.size) :
    Calls Try.prog 18 #[.pointer (some ⟨p, 0, none⟩), .int .i64 k] w fun e w' => ∃ A c, e = .returned (.tuple #[.agg #[.int .i64 (l[k]).f, .int .i64 (l[k]).t, .slice A (l[k]).bs.length c], .int .i64 0]) ∧ Fresh w w' A c (l[k]).bs := by
  obtain ⟨g, cc, hv, _⟩ := ho.form (by omega)
  injection hv with hv1 hv2 hv3
  subst hv1
  have d0 : w.cell? ⟨g, k * 3, none⟩ = some (.int .i64 (l[k]).f) := (ho.cellAt _ (by omega)).trans (rowOf_at l k hk 0 (by omega))
  have d1 : w.cell? ⟨g, k * 3 + 1, none⟩ = some (.int .i64 (l[k]).t) := (ho.cellAt _ (by omega)).trans (rowOf_at l k hk 1 (by omega))
  have d2 : w.cell? ⟨g, k * 3 + 2, none⟩ = some (.slice (l[k]).A (l[k]).bs.length (l[k]).c) := (ho.cellAt _ (by omega)).trans (rowOf_at l k hk 2 (by omega))
  have q0 := (hb.cell 0).trans h0
  have lp := hb.lt
  have lg := own_lt ho g rfl
  obtain ⟨x, hxx⟩ : ∃ x, x = l[k] := ⟨_, rfl⟩
  rw [← hxx] at d0 d1 d2 hx ⊢
  obtain ⟨xf, xt, xA, xc, xbs⟩ := x
  simp only at d0 d1 d2 ⊢
  have HX := Lib.hid hx
  have hk' : (k : Int) < (l.length : Int) := by omega
  have hk0 : (0 : Int) ≤ (k : Int) := by omega
  have hn' : (l.length : Int) ≤ 4096 := by omega
  clear hb h0 ho hx hv2 hv3 hxx
  go_enter Try.func18, Try.ntmps18
  go_wp2_with fail
  refine (refcopy_any T (.slice xA xbs.length xc) xf xt xbs _ (HX.out.1.below (Ba (B0 w) _) hT) (fun i hi => by have := hT i hi; simp; omega) HX.out.2).mono ?_
  rintro e w1 ⟨A1, c1, rfl, HF⟩
  have hb1 := (Blk.new w 30 #[.int .i64 0, .int .i64 0, .slice none 0 0]).later HF.kept
  obtain ⟨r0, r1, r2, y0, y1, y2⟩ := blk3 hb1
  have HFF := Lib.hid HF
  have HB1 := Lib.hid hb1
  clear HF hb1
  go_wp2_with fail
  obtain ⟨x0, x1, x2, _⟩ := blk3 (HB1.out.set3 (.int .i64 xf) (.int .i64 xt) (.slice A1 xbs.length c1))
  refine bodyPost_ret (v := .tuple #[.agg #[.int .i64 xf, .int .i64 xt, .slice A1 xbs.length c1], .int .i64 0]) (by simp [results, Try.results18, go_sem, x0, x1, x2]) rfl ?_
  exact ⟨A1, c1, rfl, HFF.out.post (Ba (B0 w) _) ((((Mod.refl _ _).setCell (.inl ⟨by simp, by simp⟩) _).setCell (.inl ⟨by simp, by simp⟩) _).setCell (.inl ⟨by simp, by simp⟩) _)⟩

theorem rlsee_out (p : Nat) (i : Int) (A : Option Addr) (n c : Nat) (cs : Array Value) (w : World) (hb : Blk w p 39 cs) (h0 : cs[0]? = some (.slice A n c)) (hn : n ≤ 4096) (hin : inR n i = false) :
    Calls Try.prog 18 #[.pointer (some ⟨p, 0, none⟩), .int .i64 i] w fun e w' => ∃ A c, e = .returned (.tuple #[.agg #[.int .i64 0, .int .i64 0, .slice A ([] : List Int).length c], .int .i64 9]) ∧ Fresh w w' A c [] := by
  have q0 := (hb.cell 0).trans h0
  have lp := hb.lt
  have hn' : (n : Int) ≤ 4096 := by omega
  have hii : i < 0 ∨ (0 ≤ i ∧ (n : Int) ≤ i) := by
    by_cases h : i < 0
    · exact .inl h
    · right
      refine ⟨by omega, ?_⟩
      have : ¬ (0 ≤ i ∧ i < (n : Int)) := by simpa [inR] using hin
      omega
  clear hb h0 hin hn
  rcases hii with hi | ⟨hi0, hi1⟩
  all_goals
    go_enter Try.func18, Try.ntmps18
    go_wp2_with fail
    obtain ⟨x0, x1, x2, _⟩ := blk3 ((Blk.new w 30 #[.int .i64 0, .int .i64 0, .slice none 0 0]).set3 (.int .i64 0) (.int .i64 0) (.slice none 0 0))
    refine bodyPost_ret (v := .tuple #[.agg #[.int .i64 0, .int .i64 0, .slice none 0 0], .int .i64 9]) (by simp [results, Try.results18, go_sem, x0, x1, x2]) rfl ⟨none, 0, rfl, World.ownsRow_nil _ _ _ _, ?_⟩
    first | exact Bs (Bs (Bs (Ba (B0 w) _) (by simp) _) (by simp) _) (by simp) _ | exact Ba (B0 w) _

theorem rlsee_any (S : Nat → Prop) (p : Nat) (ds : List Dg) (sd i : Int) (w : World) (h : RlAt w S p ds sd) (hmost : ds.length ≤ 4096) : Calls Try.prog 18 #[.pointer (some ⟨p, 0, none⟩), .int .i64 i] w (Seen ds i w) := by
  obtain ⟨h1, h2, l, sl, T, cs, h3, h4, h4a, h4b, h4c, h5, h6, h7, h8⟩ := h
  obtain ⟨A, c, rfl⟩ := own_slice h5
  subst h3
  unfold Seen seeE seeD
  by_cases hin : inR (l.map Item.dg).length i = true
  · simp only [hin, if_true]
    have hi' : 0 ≤ i ∧ i < (l.length : Int) := by simpa [inR] using hin
    obtain ⟨k, rfl⟩ := Int.eq_ofNat_of_zero_le hi'.1
    have hk : k < l.length := by omega
    rw [show (l.map Item.dg).getD ((k : Nat) : Int).toNat ⟨0, 0, []⟩ = (l[k]).dg by simp [List.getD, hk]]
    exact rlsee_in p k l A c T cs w h4 h4b h5 hk (by simpa using hmost) (h8 _ (List.getElem_mem hk)) (fun i hi => h2 i (h7 i hi).1)
  · have hin' : inR (l.map Item.dg).length i = false := by simpa using hin
    simp only [hin', Bool.false_eq_true, if_false]
    exact rlsee_out p i A _ c cs w h4 (by simpa using h4b) (by simpa using hmost) (by simpa using hin')

/-- What the reference's Put does where there is room. -/
def RPutOut (p : Nat) (f t : Int) (sl : Value) (n : Nat) (bs : List Int) (xs : List Value) (w : World) (e : Ending) (w' : World) : Prop :=
  e = .returned (.int .i64 0) ∧ ∃ A1 c1 v2 w1 w2 W, Below w.heap.size w W ∧ Fresh W w1 A1 c1 bs ∧ Appended (w1.alloc (.cells #[.int .i64 f, .int .i64 t, .slice A1 bs.length c1] 30)) 0 30 3 sl (n + 1) (xs ++ [.int .i64 f, .int .i64 t, .slice A1 bs.length c1]) v2 w2 ∧ w' = w2.setCell ⟨p, 0, none⟩ v2

set_option maxHeartbeats 2000000 in
theorem rlput_ok (p : Nat) (f t : Int) (A : Option Addr) (c : Nat) (bs : List Int) (T : Nat → Prop) (w : World) (hr : Rd w T 1 (.slice A bs.length c) bs.length (bts bs)) (hT : ∀ i, T i → i < w.heap.size) (hbl : bs.length ≤ 140737488355328)
    (hf : adr f = true) (ht : adr t = true) (hne : (f == t) = false) (l : List Item) (As : Option Addr) (k : Nat) (cs : Array Value) (h4 : Blk w p 39 cs) (h0 : cs[0]? = some (.slice As l.length k)) (h5 : w.ownsRow 0 30 3 (.slice As l.length k) l.length (rowOf l)) (hmost : l.length ≤ 4000) :
    Calls Try.prog 33 #[.pointer (some ⟨p, 0, none⟩), .agg #[.int .i64 f, .int .i64 t, .slice A bs.length c]] w (RPutOut p f t (.slice As l.length k) l.length bs (rowOf l) w) := by
  obtain ⟨i0, hi0, hz0, hz1, hz2⟩ := info_parts info30
  have HB := Lib.hid h4
  have HO := Lib.hid h5
  have HR := Lib.hid hr
  have HF1 := Lib.hid hf
  have HT1 := Lib.hid ht
  have q0 := (h4.cell 0).trans h0
  have z0 := h4.frozen 0
  have lp := h4.lt
  have hl4 : ((l.length : Int) == 4096) = false := by rw [beq_eq_false_iff_ne]; omega
  have hl5 : (l.length : Int) ≤ 4000 := by omega
  have H0 := Lib.hid h0
  clear h4 h5 hr hf ht h0
  go_enter Try.func33, Try.ntmps33
  go_wp2_with (first
    | (go_at_call_of 30 f; refine (ref_address_is HF1.out _).mono ?_; rintro e w' ⟨rfl, rfl⟩)
    | (go_at_call_of 30 t; refine (ref_address_is HT1.out _).mono ?_; rintro e w' ⟨rfl, rfl⟩))
  have HWB := Lib.hid (HB.out.alloc (.cells #[.int .i64 f, .int .i64 t, .slice A bs.length c] 30))
  go_region_law (first
    | (go_simp; go_at_call 32; refine (refcopy_any T (.slice A bs.length c) f t bs _ (HR.out.below (Bd (Ba (B0 w) _)) hT) (fun i hi => by have := hT i hi; simp; omega) hbl).mono ?_; rintro e w2 ⟨A1, c1, rfl, HF⟩; have hb2 := HWB.out.drew.later HF.kept; have q0' := (hb2.cell 0).trans H0.out; have lp2 := hb2.lt; have HO2 := Lib.hid ((own_below HO.out (Bt (Bd (Ba (B0 w) _)) HF.kept)).alloc (.cells #[.int .i64 f, .int .i64 t, .slice A1 bs.length c1] 30)); have HN2 := Lib.hid (Rd.box w2 30 [.int .i64 f, .int .i64 t, .slice A1 bs.length c1] 3 rfl))
    | (refine step_append_rd _ rfl (.tmp 32) (.tmp 35) 36 rfl 0 30 i0 (.agg #[.int .i64 0, .int .i64 0, .slice none 0 0]) 3 40 Try.underlying36 hi0 hz0 hz1 hz2 rfl (by omega) (.slice As l.length k) l.length (rowOf l) (by simp [Act.eval, Act.put]) HO2.out (fun k => k = w2.heap.size) (.slice (some ⟨w2.heap.size, 0, none⟩) 1 1) 1 [.int .i64 f, .int .i64 t, .slice A1 bs.length c1] (by simp [Act.eval, Act.put]) HN2.out (by simp [Value.oneCell']) (by simp only [maxLen]; omega) (by omega) (Nat.zero_le _) ?_; intro v2 w3 HA; obtain ⟨A2, c2, rfl⟩ := own_slice HA.own; have HBp := Blk.grown (Blk.alloc hb2 _) HA.grown (own_ne_blk HO.out HB.out (show (30 : TypeId) ≠ 39 by decide)).symm; have p0 := (HBp.cell 0).trans H0.out; have k0 := HBp.frozen 0))
  all_goals
    go_wp2
    go_ret
    exact ⟨rfl, A1, c1, _, w2, w3, _, Bd (Ba (B0 w) _), HF, HA, rfl⟩
end Go.Proofs.Ytekedgokmmkplaa
