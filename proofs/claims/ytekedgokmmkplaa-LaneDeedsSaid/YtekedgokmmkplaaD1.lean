/- The reference's lane: New, Cut, Reaches; the statement LaneReaches: its walk. -/
import Derived.Test.YtekedgokmmkplaaB2
import Derived.OpenShut
namespace Go.Proofs.Ytekedgokmmkplaa
open Go.RowKit
set_option maxRecDepth 20000
set_option linter.unusedVariables false
set_option linter.unusedSimpArgs false

theorem cutE_nn' {s : Int} (h : 0 ≤ s) : cutE s = 0 := by simp [cutE]; omega
/-- The side of the reference's lane at block p. -/
def SideAt (w : World) (p : Nat) (sd : Int) : Prop := ∃ cs : Array Value, Blk w p 39 cs ∧ cs.size = 65 ∧ ∀ a, a < 63 → cs[1 + a]? = some (.bool (sideBit sd a))
theorem SideAt.later {w w' : World} {p : Nat} {sd : Int} (h : SideAt w p sd) (hb : Below w.heap.size w w') : SideAt w' p sd := by
  obtain ⟨cs, h1, h2⟩ := h
  exact ⟨cs, h1.later hb, h2⟩
theorem SideAt.kept {w w' : World} {S : Nat → Prop} {p : Nat} {sd : Int} (h : SideAt w p sd) (hm : Mod S w w') (hs : ¬ S p) : SideAt w' p sd := by
  obtain ⟨cs, h1, h2⟩ := h
  exact ⟨cs, h1.kept hm hs, h2⟩
theorem SideAt.lt {w : World} {p : Nat} {sd : Int} (h : SideAt w p sd) : p < w.heap.size := by
  obtain ⟨cs, h1, h2⟩ := h
  exact h1.lt

def zero39 : Array Value := (.slice none 0 0 :: List.replicate 64 (.bool false)).toArray
theorem run_zero39 (w : World) : (zeroValue 39).run Try.prog w = .ok (.agg zero39) w := by kernel_rfl
theorem refnew_any (w : World) : Calls Try.prog 13 #[] w fun e w' => e = .returned (.pointer (some ⟨w.heap.size, 0, none⟩)) ∧ Below w.heap.size w w' ∧ SideAt w' w.heap.size 0 ∧ w'.cell? ⟨w.heap.size, 0, none⟩ = some (.slice none 0 0) := by
  have hz := run_zero39 w
  go_enter Try.func13, Try.ntmps13
  go_wp2
  go_ret
  refine ⟨by simp, Ba (B0 w) _, ⟨zero39, Blk.new w 39 _, by simp [zero39], ?_⟩, ?_⟩
  · intro a ha
    have e : sideBit 0 a = false := by simp [sideBit]
    unfold zero39
    rw [e, List.getElem?_toArray, Nat.add_comm, List.getElem?_cons_succ, List.getElem?_replicate, if_pos (by omega)]
  · rw [(Blk.new w 39 zero39).cell]
    rfl

set_option maxHeartbeats 1000000 in
theorem refcut_any (p : Nat) (sd side : Int) (w : World) (h : SideAt w p sd) (hs : side < 9223372036854775808) : Calls Try.prog 23 #[.pointer (some ⟨p, 0, none⟩), .int .i64 side] w fun e w' =>
    e = .returned (.int .i64 (cutE side)) ∧ Mod (fun k => k = p) w w' ∧ SideAt w' p (cutS sd side) ∧ w'.cell? ⟨p, 0, none⟩ = w.cell? ⟨p, 0, none⟩ := by
  have H := Lib.hid h
  by_cases h0 : side < 0
  · unfold cutE cutS
    rw [if_pos h0, if_pos h0]
    clear h
    go_enter Try.func23, Try.ntmps23
    go_wp2
    go_ret
    exact ⟨rfl, Mod.refl _ _, H.out, rfl⟩
  · have e1 : cutE side = 0 := by simp [cutE, h0]
    have e2 : cutS sd side = side := by simp [cutS, h0]
    rw [e1, e2]
    obtain ⟨cs0, hb0, hs0, hc0⟩ := h
    have h1 : 0 ≤ side := by omega
    have HB0 := Lib.hid hb0
    clear e1 e2 hb0 hc0
    go_enter Try.func23, Try.ntmps23
    go_wp2
    go_loopw [1, 5] (fun s a wr => ∃ k : Nat, ∃ cs : Array Value, k ≤ 63 ∧ a = .int .i64 k ∧ s = .int .i64 (side / 2 ^ k) ∧ Mod (fun i => i = p) w wr ∧ Blk wr p 39 cs ∧ cs.size = 65 ∧ (∀ a, a < k → cs[1 + a]? = some (.bool (sideBit side a))) ∧ cs[0]? = cs0[0]?) (fun _ a _ => 63 - (intOf a).toNat)
    case atStart => exact ⟨0, cs0, by omega, rfl, by simp, Mod.refl _ _, HB0.out, hs0, fun a h => by omega, rfl⟩
    case round =>
      obtain ⟨k, cs, hk, rfl, rfl, hm, hb, hsz, hcs, hc1⟩ := hrel
      obtain ⟨X, hX, hX'⟩ := div_pow_nat side h1 k
      have hXb : (X : Int) ≤ 9223372036854775807 := by omega
      have hX0 : (0 : Int) ≤ (X : Int) := by omega
      rw [hX]
      by_cases hlt : k < 63
      · have hlt' : (k : Int) < 63 := by omega
        have hlt2 : (k : Int) < 64 := by omega
        have hk0 : (0 : Int) ≤ (k : Int) := by omega
        have hex : wr.cell? ⟨p, 1 + k, none⟩ = some cs[1 + k] := (hb.cell _).trans (by rw [Array.getElem?_eq_getElem (by omega)])
        have hfz := hb.frozen (1 + k)
        have em : ((X : Int) % 2 == 1) = sideBit side k := by
          unfold sideBit
          rw [hX]
          rfl
        have ed : (X : Int).tdiv 2 = side / 2 ^ (k + 1) := by
          rw [Int.tdiv_eq_ediv_of_nonneg hX0, ← hX, Int.pow_succ, Int.ediv_ediv_of_nonneg (Int.le_of_lt (Int.pow_pos (by omega)))]
        have HM := Lib.hid (And.intro hm (And.intro hb (And.intro hsz (And.intro hcs hc1))))
        have HX := Lib.hid hX
        have HE := Lib.hid (And.intro em ed)
        clear hm hb hcs hc1 hX em ed
        go_wp2
        go_roundw
        case rel =>
          refine ⟨k + 1, cs.setIfInBounds (1 + k) (.bool (sideBit side k)), by omega, by go_num, by rw [← HE.out.2]; go_num, ?_, ?_, ?_, ?_, ?_⟩
          · exact HM.out.1.setCell (.inl rfl) _
          · have := HM.out.2.1.set_ (1 + k) (.bool (sideBit side k))
            rw [HE.out.1]
            exact this
          · simpa using HM.out.2.2.1
          · intro a ha
            by_cases e : a = k
            · subst e
              rw [Array.getElem?_setIfInBounds_self_of_lt (by omega)]
            · rw [Array.getElem?_setIfInBounds_ne (by omega)]
              exact HM.out.2.2.2.1 a (by omega)
          · rw [Array.getElem?_setIfInBounds_ne (by omega)]
            exact HM.out.2.2.2.2
        case measure => simp [intOf]; omega
      · obtain rfl : k = 63 := by omega
        have HM := Lib.hid (And.intro hm (And.intro hb (And.intro hsz (And.intro hcs hc1))))
        clear hm hb hcs hc1
        go_wp2
        go_ret
        exact ⟨rfl, HM.out.1, ⟨cs, HM.out.2.1, HM.out.2.2.1, HM.out.2.2.2.1⟩, by rw [HM.out.2.1.cell, HB0.out.cell, HM.out.2.2.2.2]⟩
theorem ref_address_is {a : Int} {b : Bool} (h : adr a = b) (w : World) : Calls Try.prog 30 #[.int .i64 a] w fun e w' => e = .returned (.bool b) ∧ w = w' := h ▸ ref_address a w

theorem refreaches_any (p : Nat) (sd a b : Int) (w : World) (h : SideAt w p sd) :
    Calls Try.prog 21 #[.pointer (some ⟨p, 0, none⟩), .int .i64 a, .int .i64 b] w fun e w' => e = .returned (.bool (reachF sd a b)) ∧ ∃ n, w' = w.drewN n := by
  obtain ⟨cs, hb, hsz, hcs⟩ := h
  unfold reachF
  cases ha : adr a
  · have HA := Lib.hid ha
    clear ha hb hcs
    simp only [Bool.false_and]
    go_enter Try.func21, Try.ntmps21
    go_wp2_with fail
    go_quiet ((go_at_call_of 30 a; exact quiet_left (ref_address_is HA.out _)))
    go_wp2
    go_ret
    exact ⟨rfl, nq, rfl⟩
  · cases hbb : adr b
    · have HA := Lib.hid ha
      have HA2 := Lib.hid hbb
      clear ha hbb hb hcs
      simp only [Bool.false_and, Bool.and_false]
      by_cases hab : a = b
      · exfalso; have h1 := HA.out; have h2 := HA2.out; rw [hab, h2] at h1; cases h1
      clear hab
      go_enter Try.func21, Try.ntmps21
      go_wp2_with fail
      go_quiet ((first
        | (go_at_call_of 30 a; exact quiet_left (ref_address_is HA.out _))
        | (go_at_call_of 30 b; exact quiet_left (ref_address_is HA2.out _))))
      go_wp2
      go_ret
      exact ⟨rfl, nq, rfl⟩
    · have HA := Lib.hid ha
      have HA2 := Lib.hid hbb
      have r1 := adr_range ha
      have r2 := adr_range hbb
      obtain ⟨x, rfl⟩ := Int.eq_ofNat_of_zero_le (show 0 ≤ a by omega)
      obtain ⟨y, rfl⟩ := Int.eq_ofNat_of_zero_le (show 0 ≤ b by omega)
      have d1 := (hb.cell (1 + x)).trans (hcs x (by omega))
      have d2 := (hb.cell (1 + y)).trans (hcs y (by omega))
      have x0 : (0 : Int) ≤ (x : Int) := by omega
      have x1 : (x : Int) < 64 := by omega
      have y0 : (0 : Int) ≤ (y : Int) := by omega
      have y1 : (y : Int) < 64 := by omega
      clear ha hbb hb hcs r1 r2
      simp only [Bool.true_and, Int.toNat_natCast]
      go_enter Try.func21, Try.ntmps21
      go_wp2_with fail
      go_quiet ((first
        | (go_at_call_of 30 (x : Int); exact quiet_left (ref_address_is HA.out _))
        | (go_at_call_of 30 (y : Int); exact quiet_left (ref_address_is HA2.out _))))
      go_wp2
      go_ret
      exact ⟨rfl, nq, rfl⟩

/-- What others do to blocks of K, or to new ones. -/
theorem LaneIn.other {B : Nat} {K T : Nat → Prop} {w w' : World} {p : Nat} {ds : List Dg} {sd : Int} (h : LaneIn B K w p ds sd) (hm : Mod T w w') (hT : ∀ i, T i → K i) : LaneIn B K w' p ds sd := by
  obtain ⟨h1, h2, h3, h4, h5, S, h6, h7⟩ := h
  exact ⟨Nat.le_trans h1 hm.size, fun i hi => Nat.lt_of_lt_of_le (h2 i hi) hm.size, h3, h4, h5, S, h6, h7.kept hm (fun i hi ht => (h6 i hi).2 (hT i ht))⟩

set_option maxHeartbeats 4000000 in
theorem laneReaches_walk (W : World) (side : Int) (w0 : (Lit.int .i64 side).wf = true) (a0 : Int) (w1 : (Lit.int .i64 a0).wf = true) (b0 : Int) (w2 : (Lit.int .i64 b0).wf = true) :
    Calls Try.prog 4 #[.int .i64 side, .int .i64 a0, .int .i64 b0] W fun e w' => e = .returned (.bool true) ∧ Below W.heap.size W w' := by
  have hs1 := (bounds_i64 w0).2
  clear w0 w1 w2
  go_enter Try.func4, Try.ntmps4
  go_wp2_with fail
  refine (new_in (fun _ => False) W (fun i h => h.elim) W.heap.size (Nat.le_refl _)).mono ?_
  rintro e w1 ⟨rfl, HL1, hb1⟩
  have lw1 := hb1.size
  go_wp2_with fail
  refine (refnew_any _).mono ?_
  rintro e w2 ⟨rfl, hb2, hr2, _⟩
  have lr2 := hr2.lt
  have HL2 := HL1.keep (L := fun j => j = w1.heap.size) hb2 (fun j hj => .inl (by omega))
  have HW2 := Bt hb1 hb2
  clear hb1 hb2 HL1
  go_wp2_with fail
  refine (cut_in side (by omega) _ HL2).mono ?_
  rintro e w3 ⟨rfl, HL3, hm3⟩
  have hr3 := hr2.kept hm3 (fun h => h.2 rfl)
  have HW3 := Bm HW2 hm3 (fun i h => h.1)
  clear hm3 hr2 HW2 HL2
  go_wp2_with fail
  refine (refcut_any _ 0 side _ hr3 (by omega)).mono ?_
  rintro e w4 ⟨rfl, hm4, hr4, _⟩
  have HL4 := HL3.other hm4 (fun i hi => hi)
  have HW4 := Bm HW3 hm4 (fun i h => by omega)
  clear hm4 hr3 HW3 HL3
  generalize cutS 0 side = sd at HL4 hr4
  generalize cutE side = ce
  go_wp2_with fail
  refine (reaches_in a0 b0 _ HL4).mono ?_
  rintro e w' ⟨rfl, n1, rfl⟩
  go_wp2_with fail
  refine (refreaches_any _ sd a0 b0 _ (hr4.later (BdN (B0 w4) n1))).mono ?_
  rintro e w' ⟨rfl, n2, rfl⟩
  generalize reachF sd a0 b0 = r
  go_wp2_with fail
  refine (works_any _).mono ?_
  rintro e w5 ⟨rfl, hb5⟩
  go_wp2_with fail
  go_ret
  exact ⟨rfl, Bt (BdN HW4 _) hb5⟩
end Go.Proofs.Ytekedgokmmkplaa
