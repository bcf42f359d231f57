/- The statement LaneDouble: its walk. -/
import Derived.Test.YtekedgokmmkplaaC2
namespace Go.Proofs.Ytekedgokmmkplaa
open Go.RowKit
set_option linter.unusedVariables false
set_option linter.unusedSimpArgs false

theorem dblE_nat (ds : List Dg) (i : Nat) (bs : List Int) (h : ds[i]? = some ⟨1, 2, bs⟩) (hl : ds.length < 4096) : dblE ds i = 0 := by
  have hi : i < ds.length := (List.getElem?_eq_some_iff.1 h).1
  simp [dblE, inR_nat _ _ hi, seeD_nat _ _ _ h, putE_12 _ hl]
theorem dblL_nat (ds : List Dg) (i : Nat) (bs : List Int) (h : ds[i]? = some ⟨1, 2, bs⟩) (hl : ds.length < 4096) : dblL ds i = ds ++ [⟨1, 2, bs⟩] := by
  have hi : i < ds.length := (List.getElem?_eq_some_iff.1 h).1
  simp [dblL, inR_nat _ _ hi, seeD_nat _ _ _ h, putL_12 _ hl]

theorem rd_any {w : World} {S : Nat → Prop} {sz n : Nat} {v : Value} {cs : List Value} (h : Rd w S sz v n cs) (hS : ∀ i, S i → i < w.heap.size) : ∀ w', Below w.heap.size w w' → Rd w' (fun i => i < w.heap.size) sz v n cs :=
  fun _ hb => (h.below hb hS).mono hS

set_option maxHeartbeats 2000000 in
theorem laneDouble_walk (W : World) (n0 : Int) (w0 : (Lit.int .i64 n0).wf = true) (at0 : Int) (w1 : (Lit.int .i64 at0).wf = true) :
    Calls Try.prog 7 #[.int .i64 n0, .int .i64 at0] W fun e w' => e = .returned (.bool true) ∧ Below W.heap.size W w' := by
  clear w0 w1
  obtain ⟨m, hm⟩ := Int.eq_ofNat_of_zero_le (bringF_lt n0 100 (by omega)).1
  have hm1 : m < 100 := by have := (bringF_lt n0 100 (by omega)).2; omega
  have HM := Lib.hid hm
  clear hm
  obtain ⟨a, ha⟩ := Int.eq_ofNat_of_zero_le (bringF_lt at0 (1 + (m : Int)) (by omega)).1
  have ha1 : a < 1 + m := by have := (bringF_lt at0 (1 + (m : Int)) (by omega)).2; omega
  have HA := Lib.hid ha
  clear ha
  go_enter Try.func7, Try.ntmps7
  go_wp2_with fail
  refine (works_any _).mono ?_
  rintro e w1 ⟨rfl, hb1⟩
  go_wp2_with fail
  refine (bring_any n0 100 _ (by omega)).mono ?_
  rintro e w' ⟨rfl, rfl⟩
  rw [HM.out]
  go_wp2_with fail
  refine (bring_any at0 (1 + (m : Int)) _ (by omega)).mono ?_
  rintro e w' ⟨rfl, rfl⟩
  rw [HA.out]
  go_wp2_with fail
  refine (new_in (fun _ => False) w1 (fun i h => h.elim) w1.heap.size (Nat.le_refl _)).mono ?_
  rintro e w2 ⟨rfl, HL2, hb2⟩
  have HB2 := Lib.hid (Bt hb1 hb2)
  replace HL2 := Lib.hid HL2
  clear hb2
  have lw1 := hb1.size
  go_wp2_with fail
  go_loopw [6] (fun i wr => ∃ k : Nat, k ≤ m + 1 ∧ i = .int .i64 k ∧ LaneIn w1.heap.size (fun _ => False) wr w1.heap.size (fil k) 0 ∧ Below W.heap.size W wr) (fun i _ => m + 1 - (intOf i).toNat)
  case atStart => exact ⟨0, Nat.zero_le _, rfl, by rw [fil_zero]; exact HL2.out, HB2.out⟩
  case round =>
    obtain ⟨k, hk, rfl, HLk, HBk⟩ := hrel
    by_cases hlt : k < m + 1
    · have hlt' : (k : Int) < 1 + (m : Int) := by omega
      have hk255 : (k : Int) ≤ 255 := by omega
      have hk0 : (0 : Int) ≤ (k : Int) := by omega
      go_wp2_with fail
      refine (one_any _ 1 1 _).mono ?_
      rintro e wr1 ⟨rfl, hbo⟩
      have hbr := Bt (Ba (B0 wr) (.cells #[.int .u8 (k : Int)] 5)) hbo
      have hb7 := (Blk.new wr 5 (bts [(k : Int)]).toArray).later hbo
      have lr : wr.heap.size < wr1.heap.size := Nat.lt_of_lt_of_le (by simp) hbo.size
      replace HLk := HLk.below hbr
      go_wp2_with fail
      refine (put_in 1 2 _ 1 [(k : Int)] _ HLk (rd_lit _ _ [(k : Int)] 5 hb7 (by simp [maxLen])) (fun j hj => by omega) (by simp)).mono ?_
      rintro e wr2 ⟨rfl, HLk2, hmk⟩
      rw [putE_12 _ (by rw [fil_length]; omega)]
      rw [putL_12 _ (by rw [fil_length]; omega), ← fil_succ] at HLk2
      have hbk : Below W.heap.size W wr2 := Bm (Bt HBk hbr) hmk (fun i h => Nat.le_trans lw1 h.1)
      clear HLk hb7 hmk hbr hbo
      go_wp2_with fail
      go_roundw
      case rel => exact ⟨k + 1, by omega, by go_num, HLk2, hbk⟩
      case measure => simp [intOf]; omega
    · have hlt' : ¬ (k : Int) < 1 + (m : Int) := by omega
      obtain rfl : k = m + 1 := by omega
      have ha255 : (a : Int) ≤ 255 := by omega
      have ha0 : (0 : Int) ≤ (a : Int) := by omega
      clear hk hlt
      have hfl : (fil (m + 1)).length < 4096 := by rw [fil_length]; omega
      have hfa := fil_at (m + 1) a (by omega)
      have h1 : ((fil (m + 1)) ++ [⟨1, 2, [(a : Int)]⟩])[a]? = some (⟨1, 2, [(a : Int)]⟩ : Dg) := by rw [List.getElem?_append_left (by rw [fil_length]; omega)]; exact hfa
      have h2 : ((fil (m + 1)) ++ [⟨1, 2, [(a : Int)]⟩])[m + 1]? = some (⟨1, 2, [(a : Int)]⟩ : Dg) := by rw [List.getElem?_append_right (by rw [fil_length]; omega), fil_length]; simp
      have h3 : ((fil (m + 1)) ++ [(⟨1, 2, [(a : Int)]⟩ : Dg)]).length = m + 2 := by simp [fil_length]
      have HH := Lib.hid (And.intro hfl (And.intro hfa (And.intro h1 (And.intro h2 h3))))
      clear hfl hfa h1 h2 h3
      go_wp2_with fail
      refine (double_in (a : Int) _ HLk).mono ?_
      rintro e w3 ⟨rfl, HL3, hm3⟩
      rw [dblE_nat _ _ _ HH.out.2.1 HH.out.1]
      rw [dblL_nat _ _ _ HH.out.2.1 HH.out.1] at HL3
      have HB3 := Lib.hid (Bm HBk hm3 (fun i h => Nat.le_trans lw1 h.1))
      clear HLk hm3 HBk
      go_wp2_with fail
      refine (len_in _ HL3).mono ?_
      rintro e w' ⟨rfl, rfl⟩
      rw [HH.out.2.2.2.2]
      have hmm : ((m + 2 : Nat) : Int) = (m : Int) + 2 := by omega
      rw [hmm]
      have hmd : ((m : Int) + 2 != 1 + (m : Int) + 1) = false := by simp; omega
      have hmn : (1 : Int) + (m : Int) = ((m + 1 : Nat) : Int) := by omega
      have HMN := Lib.hid hmn
      clear hmn
      go_wp2_with fail
      clear hmd hmm
      refine (see_in_ (a : Int) _ HL3).mono ?_
      rintro e w4 ⟨A1, c1, rfl, HF1⟩
      rw [seeD_nat _ _ _ HH.out.2.2.1, seeE_nat _ _ (by rw [HH.out.2.2.2.2]; omega)]
      rw [seeD_nat _ _ _ HH.out.2.2.1] at HF1
      replace HF1 := Lib.hid HF1
      have HL4 := HL3.below (Ba HF1.out.kept (.cells #[.int .i64 1, .int .i64 2, .slice A1 1 c1] 30))
      have HB4 := Lib.hid (Bt HB3.out (Ba HF1.out.kept (.cells #[.int .i64 1, .int .i64 2, .slice A1 1 c1] 30)))
      clear HL3 HB3
      go_wp2_with fail
      rw [HMN.out]
      refine (see_in_ ((m + 1 : Nat) : Int) _ HL4).mono ?_
      rintro e w5 ⟨A2, c2, rfl, HF2⟩
      rw [seeD_nat _ _ _ HH.out.2.2.2.1, seeE_nat _ _ (by rw [HH.out.2.2.2.2]; omega)]
      rw [seeD_nat _ _ _ HH.out.2.2.2.1] at HF2
      replace HF2 := Lib.hid HF2
      obtain ⟨x0, x1, x2, _⟩ := blk3 ((Blk.new w4 30 #[.int .i64 1, .int .i64 2, .slice A1 1 c1]).later HF2.out.kept)
      have lx : w4.heap.size < w5.heap.size := Nat.lt_of_lt_of_le (by simp) HF2.out.kept.size
      have hlx : ¬ w4.heap.size = w5.heap.size := by omega
      have hb45 : Below w4.heap.size w4 w5 := Bt (Ba (B0 w4) _) HF2.out.kept
      go_wp2_with fail
      have hwr : IntKind.u8.wrap (a : Int) = (a : Int) := IntWalk.u8_in _ ⟨ha0, ha255⟩
      go_region_held3 (fun w' => w'.cell? ⟨w4.heap.size, 0, none⟩ = some (.int .i64 1) ∧ w'.cell? ⟨w4.heap.size, 1, none⟩ = some (.int .i64 2) ∧ w'.cell? ⟨w4.heap.size, 2, none⟩ = some (.slice A1 1 c1) ∧
          w'.cell? ⟨w5.heap.size, 0, none⟩ = some (.int .i64 1) ∧ w'.cell? ⟨w5.heap.size, 1, none⟩ = some (.int .i64 2) ∧ w'.cell? ⟨w5.heap.size, 2, none⟩ = some (.slice A2 1 c2))
        (first
          | go_keep
          | (go_split_ands
             refine ⟨cell_later hbs (by assumption), cell_later hbs (by assumption), cell_later hbs (by assumption), cell_later hbs (by assumption), cell_later hbs (by assumption), cell_later hbs (by assumption)⟩))
        (first
          | (go_at_call 28; refine (one_any _ 1 1 _).mono ?_; rintro e w6 ⟨rfl, hbs⟩; have hb56 : Below w5.heap.size w5 w6 := Bt (Bd (Ba (Ba (B0 w5) _) _)) hbs; have RC := Lib.hid (rd_any (rd_lit _ _ [(a : Int)] 5 ((Blk.new1 w5 (.cells #[.int .i64 1, .int .i64 2, .slice A2 1 c2] 30) 5 (bts [(a : Int)]).toArray).drew.later hbs) (by simp [maxLen])) (fun i hi => by subst hi; have := hbs.size; simp at this; omega)); have RA := Lib.hid (rd_any (HF1.out.rd.below (Bt hb45 hb56) (fun _ h => h)) (fun i hi => Nat.lt_of_lt_of_le hi (Bt hb45 hb56).size)); have RB := Lib.hid (rd_any (HF2.out.rd.below hb56 (fun _ h => h)) (fun i hi => Nat.lt_of_lt_of_le hi hb56.size)); have hcur := B0 w6)
          | (go_at_call 19; refine (same_any (fun i => i < w6.heap.size) (fun i => i < w6.heap.size) 1 2 1 2 _ _ _ _ [(a : Int)] [(a : Int)] _ ?_ (fun i hi => Nat.lt_of_lt_of_le hi hcur.size) ?_ (fun i hi => Nat.lt_of_lt_of_le hi hcur.size)).mono ?_; (first | exact RA.out _ hcur | exact RB.out _ hcur | exact RC.out _ hcur); (first | exact RC.out _ hcur | exact RA.out _ hcur | exact RB.out _ hcur); rintro e w7 ⟨rfl, hbs⟩; rw [sameF_self]; replace hcur := Bt hcur hbs))
      go_wp2_with fail
      go_ret
      exact ⟨ret_bool (by simp), Bt (Bt HB4.out HF2.out.kept) (Bt hb56 hcur)⟩
end Go.Proofs.Ytekedgokmmkplaa
