/- The statement RelayAgain: its walk. -/
import Derived.Test.YtdnbbjhickjnmaaG1
namespace Go.Proofs.Ytdnbbjhickjnmaa
open Go.RowKit Go.WideShapes Go.ChangeShapes
set_option maxRecDepth 20000
set_option linter.unusedVariables false
set_option linter.unusedSimpArgs false

theorem open_floats {H : Type} {enc : TypeId × Value → H} {W : World} {base : Nat} {sp : Nat → Bool} {held : Bool} {v : Value} {d : DataW H} {p : List MemPlace} (hv : Value.okWide Try.prog W .any base 65 v) (ht : DataW.Trod enc Try.prog W 0 sp held 65 v d p) :
    ∃ a b c : Nat, v = .agg #[.float .f64 a, .float .f64 b, .float .f64 c] ∧ a < 18446744073709551616 ∧ b < 18446744073709551616 ∧ c < 18446744073709551616 := by
  simp only [Value.okWide, Try.underlying65] at hv
  obtain ⟨cs, rfl, hsz, _⟩ := hv
  have hC : Try.prog.cellsOf 65 = 3 := by kernel_rfl
  have hC3 : Try.prog.cellsOf 52 = 1 := by kernel_rfl
  obtain ⟨cs⟩ := cs
  rw [hC] at hsz
  match cs, hsz with
  | [c0, c1, c2], _ =>
    obtain ⟨fuel, hf⟩ := ht
    obtain ⟨xs, m, _, _, _, hl, hg⟩ := DataW.trod_array Try.underlying65 hf
    have g0 := hg 0 (by omega)
    have g1 := hg 1 (by omega)
    have g2 := hg 2 (by omega)
    simp [hC3, Value.cells] at g0 g1 g2
    match xs, hl with
    | [y0, y1, y2], _ =>
      obtain ⟨a, e0, _, ha⟩ := trod_float Try.underlying52 g0
      obtain ⟨b, e1, _, hb⟩ := trod_float Try.underlying52 g1
      obtain ⟨c, e2, _, hc⟩ := trod_float Try.underlying52 g2
      simp at e0 e1 e2
      subst e0 e1 e2
      exact ⟨a, b, c, rfl, f64_wf ha, f64_wf hb, f64_wf hc⟩

theorem k_inf : infB 9218868437227405312 = true := by kernel_rfl
def fx (k i t : Nat) : Nat := if i < k then fixF t else t
def fcells (k a b c : Nat) : Array Value := #[.float .f64 (fx k 0 a), .float .f64 (fx k 1 b), .float .f64 (fx k 2 c)]
theorem fcells_at (k a b c i : Nat) (hi : i < 3) : ∃ t, (fcells k a b c)[i]? = some (.float .f64 (fx k i t)) ∧ (fcells (k) a b c)[i]? = some (.float .f64 (fx k i t)) ∧ (i = k → (fcells k a b c).setIfInBounds i (.float .f64 (fixF t)) = fcells (k + 1) a b c) := by
  obtain rfl | rfl | rfl : i = 0 ∨ i = 1 ∨ i = 2 := by omega
  · exact ⟨a, rfl, rfl, by rintro rfl; simp [fcells, fx]⟩
  · exact ⟨b, rfl, rfl, by rintro rfl; simp [fcells, fx]⟩
  · exact ⟨c, rfl, rfl, by rintro rfl; simp [fcells, fx]⟩

set_option maxHeartbeats 20000000 in
theorem relayAgain_vals (W : World) (r0 p0 : Int) (a0 b0 c0 : Nat) (ha : a0 < 18446744073709551616) (hb : b0 < 18446744073709551616) (hc : c0 < 18446744073709551616) :
    Calls Try.prog 10 #[.int .i64 r0, .int .i64 p0, .agg #[.float .f64 a0, .float .f64 b0, .float .f64 c0]] W fun e w' => e = .returned (.bool true) ∧ Below W.heap.size W w' := by
  have hm := bringF_lt r0 4 (by omega)
  obtain ⟨m, hM⟩ : ∃ m : Nat, bringF r0 4 = m := ⟨(bringF r0 4).toNat, by omega⟩
  rw [hM] at hm
  have hm1 : (m : Int) ≤ 3 := by omega
  have hk := bringF_lt p0 ((m : Int) + 1) (by omega)
  obtain ⟨k, hK⟩ : ∃ k : Nat, bringF p0 ((m : Int) + 1) = k := ⟨(bringF p0 ((m : Int) + 1)).toNat, by omega⟩
  rw [hK] at hk
  have hk1 : (k : Int) < (m : Int) + 1 := hk.2
  have HM := Lib.hid (And.intro hM hK)
  have hsf := store_float
  clear hm hk hM hK
  go_enter Try.func10, Try.ntmps10
  go_wp2_with fail
  refine (works_any _).mono ?_
  rintro e w1 ⟨rfl, hb1⟩
  have HBx := (Blk.new W 65 #[.float .f64 a0, .float .f64 b0, .float .f64 c0]).later hb1
  have HW1 := Bt (Ba (B0 W) (.cells #[.float .f64 a0, .float .f64 b0, .float .f64 c0] 65)) hb1
  have lx : W.heap.size < w1.heap.size := HBx.lt
  clear hb1
  go_wp2_with fail
  refine (bring_any r0 4 _ (by omega)).mono ?_
  rintro e w' ⟨rfl, rfl⟩
  rw [HM.out.1]
  go_wp2_with fail
  refine (bring_any p0 ((m : Int) + 1) _ (by omega)).mono ?_
  rintro e w' ⟨rfl, rfl⟩
  rw [HM.out.2]
  go_wp2_with fail
  refine (begin_any m (by omega) _).mono ?_
  rintro e w2 ⟨rfl, hb2, hp, hz⟩
  have HP := Lib.hid hp
  have HBx2 := Lib.hid (HBx.later hb2)
  have HW2 := Lib.hid (Bt HW1 hb2)
  clear hp hb2 HBx HW1
  obtain ⟨g, hg⟩ : ∃ g, g = w1.heap.size := ⟨_, rfl⟩
  rw [← hg] at HP lx hz ⊢
  clear hg
  go_wp2_with fail
  go_loopw [9] (fun i wr => ∃ j : Nat, j ≤ 3 ∧ i = .int .i64 j ∧ Blk wr W.heap.size 65 (fcells j a0 b0 c0) ∧ Mod (fun i => i = W.heap.size) w2 wr) (fun i _ => 3 - (intOf i).toNat)
  case atStart => exact ⟨0, Nat.zero_le _, rfl, HBx2.out, Mod.refl _ _⟩
  case round =>
    obtain ⟨j, hj, rfl, hbx, hmx⟩ := hrel
    by_cases hlt : j < 3
    · have hlt' : (j : Int) < 3 := by omega
      have hj0 : (0 : Int) ≤ (j : Int) := by omega
      obtain ⟨t, ht, _, hset⟩ := fcells_at j a0 b0 c0 j hlt
      rw [show fx j j t = t from by simp [fx]] at ht
      have d0 : wr.cell? ⟨W.heap.size, j, none⟩ = some (.float .f64 t) := (hbx.cell j).trans ht
      have z0 := hbx.frozen j
      have hset := hset rfl
      have HX := Lib.hid (And.intro hbx (And.intro hmx hset))
      clear hbx hmx hset ht
      cases hn : notTick t
      · have hf : fixF t = t := by simp [fixF, hn]
        unfold notTick at hn
        rw [Bool.or_eq_false_iff, Bool.not_eq_false'] at hn
        obtain ⟨n1, n2⟩ := hn
        go_wp2
        go_roundw
        case rel =>
          refine ⟨j + 1, by omega, by go_num, ?_, HX.out.2.1⟩
          rw [← HX.out.2.2, hf]
          have e : (fcells j a0 b0 c0).setIfInBounds j (.float .f64 t) = fcells j a0 b0 c0 := by
            have := HX.out.1.cell j
            rw [d0] at this
            apply Array.ext_getElem?
            intro i
            by_cases hi : j = i
            · subst hi
              rw [Array.getElem?_setIfInBounds_self_of_lt (by simp [fcells]; omega), ← this]
            · rw [Array.getElem?_setIfInBounds_ne hi]
          rw [e]
          exact HX.out.1
        case measure => simp [intOf]; omega
      · have hf : fixF t = 4607182418800017408 := by simp [fixF, hn]
        unfold notTick at hn
        cases n1 : (FloatKind.f64.format.order t 0 == some .gt || FloatKind.f64.format.order t 0 == some .eq)
        · clear hn
          go_wp2
          go_roundw
          case rel =>
            refine ⟨j + 1, by omega, by go_num, ?_, HX.out.2.1.setCell (.inl rfl) _⟩
            rw [← HX.out.2.2, hf]
            exact HX.out.1.set_ j _
          case measure => simp [intOf]; omega
        · rw [n1] at hn
          have n2 : (FloatKind.f64.format.order t 9218868437227405311 == some .gt) = true := by simpa using hn
          clear hn
          go_wp2
          go_roundw
          case rel =>
            refine ⟨j + 1, by omega, by go_num, ?_, HX.out.2.1.setCell (.inl rfl) _⟩
            rw [← HX.out.2.2, hf]
            exact HX.out.1.set_ j _
          case measure => simp [intOf]; omega
    · obtain rfl : j = 3 := by omega
      rw [show fcells 3 a0 b0 c0 = #[.float .f64 (fixF a0), .float .f64 (fixF b0), .float .f64 (fixF c0)] from by simp [fcells, fx]] at hbx
      have hA := fix_tick a0 ha
      have hB := fix_tick b0 hb
      have hC := fix_tick c0 hc
      generalize fixF a0 = a at hbx hA
      generalize fixF b0 = b at hbx hB
      generalize fixF c0 = c at hbx hC
      have hp := HP.out.kept hmx (by omega) (by omega)
      have HWr := Lib.hid (Bm HW2.out hmx (fun i hi => by omega))
      clear hmx hj hlt HP HW2 HBx2
      obtain ⟨x0, x1, x2, _⟩ := blk3 hbx
      have lr := hp.1.lt
      have HB0 := Lib.hid hbx
      have HP0 := Lib.hid hp
      clear hbx hp
      obtain ⟨l0, hl0⟩ : ∃ l0, l0 = List.replicate (m + 1) (0, false) := ⟨_, rfl⟩
      rw [← hl0] at HP0
      have hG0 : GoodL l0 := hl0 ▸ goodL_new _
      have hP0 : pin l0 (k : Int) = true := by rw [hl0]; simp [pin]; omega
      have hT0 : told l0 (k : Int) = false := hl0 ▸ told_new _ _
      have hS1 := score_rep hP0 hA.1
      rw [hT0] at hS1
      simp only [Bool.false_eq_true, if_false] at hS1
      have hG1 := goodL_rep hG0 (k : Int) a hA.2
      have hP1 : pin (repL l0 (k : Int) a) (k : Int) = true := by rw [pin_rep]; exact hP0
      have hE1 := repE_ok hP0 hA.1
      obtain ⟨l1, hl1⟩ : ∃ l1, l1 = repL l0 (k : Int) a := ⟨_, rfl⟩
      rw [← hl1] at hS1 hG1 hP1
      have hE2 := repE_ok hP1 hB.1
      have hG2 := goodL_rep hG1 (k : Int) b hB.2
      have hP2 : pin (repL l1 (k : Int) b) (k : Int) = true := by rw [pin_rep]; exact hP1
      obtain ⟨l2, hl2⟩ : ∃ l2, l2 = repL l1 (k : Int) b := ⟨_, rfl⟩
      rw [← hl2] at hG2 hP2
      have hS3 := score_lost hP2
      have hG3 := goodL_lost hG2 (k : Int)
      have hP3 : pin (lostL l2 (k : Int)) (k : Int) = true := by rw [pin_lost]; exact hP2
      have hE3 := lostE_ok hP2
      obtain ⟨l3, hl3⟩ : ∃ l3, l3 = lostL l2 (k : Int) := ⟨_, rfl⟩
      rw [← hl3] at hS3 hG3 hP3
      have hS4 := score_lost hP3
      have hG4 := goodL_lost hG3 (k : Int)
      have hP4 : pin (lostL l3 (k : Int)) (k : Int) = true := by rw [pin_lost]; exact hP3
      have hE4 := lostE_ok hP3
      obtain ⟨l4, hl4⟩ : ∃ l4, l4 = lostL l3 (k : Int) := ⟨_, rfl⟩
      rw [← hl4] at hS4 hG4 hP4
      have hS5 := score_rep hP4 hC.1
      rw [hS4.2] at hS5
      simp only [Bool.false_eq_true, if_false] at hS5
      have hE5 := repE_ok hP4 hC.1
      obtain ⟨l5, hl5⟩ : ∃ l5, l5 = repL l4 (k : Int) c := ⟨_, rfl⟩
      rw [← hl5] at hS5
      have ha1 := order_self a (tick_good a hA.2 hA.1)
      have hc1 := order_self c (tick_good c hC.2 hC.1)
      have HE1 := Lib.hid (And.intro hE1 (And.intro hG0 hl1))
      have HE2 := Lib.hid (And.intro hE2 (And.intro hG1 (And.intro hS1.1 hl2)))
      have HE3 := Lib.hid (And.intro hE3 (And.intro hS3.1 hl3))
      have HE4 := Lib.hid (And.intro hE4 hl4)
      have HE5 := Lib.hid (And.intro hE5 (And.intro hG4 (And.intro hS5.1 hl5)))
      have HA := Lib.hid hA.2
      have HBb := Lib.hid hB.2
      have HC := Lib.hid hC.2
      clear hl0 hG0 hP0 hT0 hS1 hG1 hP1 hE1 hl1 hE2 hG2 hP2 hl2 hS3 hG3 hP3 hE3 hl3 hS4 hG4 hP4 hE4 hl4 hS5 hE5 hl5 hA hB hC
      go_wp2_with fail
      have hgx : ¬ W.heap.size = g := by omega
      go_region_held3 (fun w' => w'.cell? ⟨W.heap.size, 0, none⟩ = some (.float .f64 a) ∧ w'.cell? ⟨W.heap.size, 1, none⟩ = some (.float .f64 b)) (first | go_keep | (refine ⟨hm1'.cell x0 hgx, hm1'.cell x1 hgx⟩) | (refine ⟨hm2'.cell (hm1'.cell x0 hgx) hgx, hm2'.cell (hm1'.cell x1 hgx) hgx⟩)) (first
        | (go_at_call_of 30 a; refine (report_any _ g l0 k a HA.out HE1.out.2.1 _ (HP0.out.later (Bd (B0 wr)))).mono ?_; rintro e wa ⟨rfl, hm1', hpa⟩; rw [HE1.out.1]; rw [← HE1.out.2.2] at hpa; replace hm1' : Mod (fun k => k = g) wr wa := (Mod.refl (fun k => k = g) wr).drew.trans hm1' (fun i hi => .inl hi))
        | (go_at_call 32; refine (score_any _ g l1 k _ hpa).mono ?_; rintro e w' ⟨rfl, rfl⟩; rw [HE2.out.2.2.1])
        | (go_at_call_of 30 b; refine (report_any _ g l1 k b HBb.out HE2.out.2.1 _ hpa).mono ?_; rintro e wb ⟨rfl, hm2', hpb⟩; rw [HE2.out.1]; rw [← HE2.out.2.2.2] at hpb))
      all_goals
        have hX2 := (HB0.out.kept hm1' (by omega)).kept hm2' (by omega)
        have HWb := Bm (Bm HWr.out hm1' (fun i hi => by omega)) hm2' (fun i hi => by omega)
        have HXb := Lib.hid (And.intro hX2 HWb)
        clear hm1' hm2' hpa hX2 HWb x0 x1 x2 ha1
        go_wp2_with fail
        refine (lost_any _ g l2 k _ hpb).mono ?_
        rintro e wc ⟨rfl, hm3, hpc⟩
        rw [HE3.out.1]
        rw [← HE3.out.2.2] at hpc
        clear hpb
        go_wp2_with fail
        refine (score_any _ g l3 k _ hpc).mono ?_
        rintro e w' ⟨rfl, rfl⟩
        rw [HE3.out.2.1]
        go_wp2_with fail
        refine (isinf_any 9218868437227405312 _).mono ?_
        rintro e w' ⟨rfl, rfl⟩
        rw [k_inf]
        go_wp2_with fail
        refine (lost_any _ g l3 k _ hpc).mono ?_
        rintro e wd ⟨rfl, hm4, hpd⟩
        rw [HE4.out.1]
        rw [← HE4.out.2] at hpd
        have hX4 := (((HXb.out.1.kept hm3 (by omega)).kept hm4 (by omega)))
        have HWd := Lib.hid (Bm (Bm HXb.out.2 hm3 (fun i hi => by omega)) hm4 (fun i hi => by omega))
        obtain ⟨x0, x1, x2, _⟩ := blk3 hX4
        have HX4 := Lib.hid hX4
        have HPD := Lib.hid hpd
        clear hpc hpd hm3 hm4 hX4
        go_wp2_with fail
        go_region_held3 (fun w' => w'.cell? ⟨W.heap.size, 2, none⟩ = some (.float .f64 c)) (first | go_keep | (exact hm5.cell x2 hgx)) (first
          | (go_at_call_of 30 c; refine (report_any _ g l4 k c HC.out HE5.out.2.1 _ (HPD.out.later (Bd (B0 wd)))).mono ?_; rintro e we ⟨rfl, hm5, hpe⟩; rw [HE5.out.1]; rw [← HE5.out.2.2.2] at hpe; replace hm5 : Mod (fun k => k = g) wd we := (Mod.refl (fun k => k = g) wd).drew.trans hm5 (fun i hi => .inl hi))
          | (go_at_call 32; refine (score_any _ g l5 k _ hpe).mono ?_; rintro e w' ⟨rfl, rfl⟩; rw [HE5.out.2.2.1]))
        all_goals
          go_wp2
          go_ret
          exact ⟨rfl, Bm HWd.out hm5 (fun i hi => by omega)⟩

theorem relayAgain_walk {H : Type} {enc : TypeId × Value → H} (W : World) (r0 : Int) (w0 : (Lit.int .i64 r0).wf = true) (p0 : Int) (w1 : (Lit.int .i64 p0).wf = true) {base : Nat} {sp : Nat → Bool} {held : Bool} {v : Value} {d : DataW H} {p : List MemPlace} (hv : Value.okWide Try.prog W .any base 65 v) (ht : DataW.Trod enc Try.prog W 0 sp held 65 v d p) :
    Calls Try.prog 10 #[.int .i64 r0, .int .i64 p0, v] W fun e w' => e = .returned (.bool true) ∧ Below W.heap.size W w' := by
  obtain ⟨a, b, c, rfl, ha, hb, hc⟩ := open_floats hv ht
  exact relayAgain_vals W r0 p0 a b c ha hb hc
end Go.Proofs.Ytdnbbjhickjnmaa
