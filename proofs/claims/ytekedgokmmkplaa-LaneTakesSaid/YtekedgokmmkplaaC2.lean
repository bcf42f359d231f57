/- The statements LaneTakes, LaneDouble: their walks. -/
import Derived.Test.YtekedgokmmkplaaC1
namespace Go.Proofs.Ytekedgokmmkplaa
open Go.RowKit
set_option linter.unusedVariables false
set_option linter.unusedSimpArgs false

/-- The lane that the loops fill. -/
def fil (k : Nat) : List Dg := (List.range k).map fun i : Nat => ⟨1, 2, [(i : Int)]⟩
theorem fil_length (k : Nat) : (fil k).length = k := by simp [fil]
theorem fil_succ (k : Nat) : fil (k + 1) = fil k ++ [⟨1, 2, [(k : Int)]⟩] := by simp [fil, List.range_succ]
theorem fil_at (k i : Nat) (h : i < k) : (fil k)[i]? = some ⟨1, 2, [(i : Int)]⟩ := by simp [fil, h]
theorem adr12 : (adr 1 && adr 2 && !((1 : Int) == 2)) = true := by kernel_rfl
theorem putE_12 (ds : List Dg) (h : ds.length < 4096) : putE ds 1 2 = 0 := by
  unfold putE
  rw [if_pos adr12, if_neg (by omega)]
theorem putL_12 (ds : List Dg) (h : ds.length < 4096) (bs : List Int) : putL ds 1 2 bs = ds ++ [⟨1, 2, bs⟩] := by
  unfold putL
  rw [if_pos (putE_12 ds h)]
theorem inR_nat (n i : Nat) (h : i < n) : inR n (i : Int) = true := by simp [inR]; omega
theorem seeE_nat (ds : List Dg) (i : Nat) (h : i < ds.length) : seeE ds (i : Int) = 0 := by simp [seeE, inR_nat _ _ h]
theorem seeD_nat (ds : List Dg) (i : Nat) (d : Dg) (h : ds[i]? = some d) : seeD ds (i : Int) = d := by
  have hl : i < ds.length := (List.getElem?_eq_some_iff.1 h).1
  simp [seeD, inR_nat _ _ hl, h]
theorem eqB_self (xs : List Int) : eqB xs xs = true := by simp [eqB]
theorem sameF_self (f t : Int) (xs : List Int) : sameF f t f t xs xs = true := by simp [sameF, eqB_self]
theorem takesF_nat (ds : List Dg) (i : Nat) (f t : Int) (bs : List Int) (h : ds[i]? = some ⟨f, t, bs⟩) : takesF ds i f t bs = true := by
  have hl : i < ds.length := (List.getElem?_eq_some_iff.1 h).1
  simp [takesF, seeE_nat _ _ hl, seeD_nat _ _ _ h, sameF_self]
theorem fil_erase_at (n a i : Nat) (ha : a < n) (hi : i < n - 1) : ((fil n).eraseIdx a)[i]? = some ⟨1, 2, [((if a ≤ i then i + 1 else i : Nat) : Int)]⟩ := by
  rw [List.getElem?_eraseIdx]
  split
  · rw [if_neg (by omega)]
    exact fil_at n i (by omega)
  · rw [if_pos (by omega)]
    exact fil_at n (i + 1) (by omega)
theorem fil_erase_length (n a : Nat) (ha : a < n) : ((fil n).eraseIdx a).length = n - 1 := by rw [List.length_eraseIdx, fil_length, if_pos ha]
theorem fil_zero : fil 0 = [] := rfl

theorem takL_nat (ds : List Dg) (i : Nat) (h : i < ds.length) : takL ds (i : Int) = ds.eraseIdx i := by simp [takL, inR_nat _ _ h]

set_option maxHeartbeats 2000000 in
theorem laneTakes_walk (W : World) (n0 : Int) (w0 : (Lit.int .i64 n0).wf = true) (at0 : Int) (w1 : (Lit.int .i64 at0).wf = true) :
    Calls Try.prog 6 #[.int .i64 n0, .int .i64 at0] W fun e w' => e = .returned (.bool true) ∧ Below W.heap.size W w' := by
  clear w0 w1
  obtain ⟨m, hm⟩ := Int.eq_ofNat_of_zero_le (bringF_lt n0 100 (by omega)).1
  have hm1 : m < 100 := by have := (bringF_lt n0 100 (by omega)).2; omega
  have HM := Lib.hid hm
  clear hm
  obtain ⟨a, ha⟩ := Int.eq_ofNat_of_zero_le (bringF_lt at0 (1 + (m : Int)) (by omega)).1
  have ha1 : a < 1 + m := by have := (bringF_lt at0 (1 + (m : Int)) (by omega)).2; omega
  have HA := Lib.hid ha
  clear ha
  go_enter Try.func6, Try.ntmps6
  go_wp2_with fail
  refine (works_any _).mono ?_
  rintro e w1 ⟨rfl, hb1⟩
  go_wp2_with fail
  refine (bring_any n0 100 _ (by omega)).mono ?_
  rintro e w' ⟨rfl, rfl⟩
  rw [HM.out]
  go_wp2_with fail
  refine (bring_any at0 (1 + (m : Int)) _ (by omega)).mono ?_
  rintro e w' ⟨rfl, rfl⟩
  rw [HA.out]
  go_wp2_with fail
  refine (new_in (fun _ => False) w1 (fun i h => h.elim) w1.heap.size (Nat.le_refl _)).mono ?_
  rintro e w2 ⟨rfl, HL2, hb2⟩
  have HB2 := Lib.hid (Bt hb1 hb2)
  replace HL2 := Lib.hid HL2
  clear hb2
  have lw1 := hb1.size
  go_wp2_with fail
  go_loopw [6] (fun i wr => ∃ k : Nat, k ≤ m + 1 ∧ i = .int .i64 k ∧ LaneIn w1.heap.size (fun _ => False) wr w1.heap.size (fil k) 0 ∧ Below W.heap.size W wr) (fun i _ => m + 1 - (intOf i).toNat)
  case atStart => exact ⟨0, Nat.zero_le _, rfl, by rw [fil_zero]; exact HL2.out, HB2.out⟩
  case round =>
    obtain ⟨k, hk, rfl, HLk, HBk⟩ := hrel
    by_cases hlt : k < m + 1
    · have hlt' : (k : Int) < 1 + (m : Int) := by omega
      have hk255 : (k : Int) ≤ 255 := by omega
      have hk0 : (0 : Int) ≤ (k : Int) := by omega
      go_wp2_with fail
      refine (one_any _ 1 1 _).mono ?_
      rintro e wr1 ⟨rfl, hbo⟩
      have hbr := Bt (Ba (B0 wr) (.cells #[.int .u8 (k : Int)] 5)) hbo
      have hb7 := (Blk.new wr 5 (bts [(k : Int)]).toArray).later hbo
      have lr : wr.heap.size < wr1.heap.size := Nat.lt_of_lt_of_le (by simp) hbo.size
      replace HLk := HLk.below hbr
      go_wp2_with fail
      refine (put_in 1 2 _ 1 [(k : Int)] _ HLk (rd_lit _ _ [(k : Int)] 5 hb7 (by simp [maxLen])) (fun j hj => by omega) (by simp)).mono ?_
      rintro e wr2 ⟨rfl, HLk2, hmk⟩
      rw [putE_12 _ (by rw [fil_length]; omega)]
      rw [putL_12 _ (by rw [fil_length]; omega), ← fil_succ] at HLk2
      have hbk : Below W.heap.size W wr2 := Bm (Bt HBk hbr) hmk (fun i h => Nat.le_trans lw1 h.1)
      clear HLk hb7 hmk hbr hbo
      go_wp2_with fail
      go_roundw
      case rel => exact ⟨k + 1, by omega, by go_num, HLk2, hbk⟩
      case measure => simp [intOf]; omega
    · have hlt' : ¬ (k : Int) < 1 + (m : Int) := by omega
      obtain rfl : k = m + 1 := by omega
      have ha255 : (a : Int) ≤ 255 := by omega
      have ha0 : (0 : Int) ≤ (a : Int) := by omega
      clear hk hlt
      go_wp2_with fail
      refine (one_any _ 1 1 _).mono ?_
      rintro e w3 ⟨rfl, hbo⟩
      have hbr := Bt (Ba (B0 wr) (.cells #[.int .u8 (a : Int)] 5)) hbo
      have hb7 := (Blk.new wr 5 (bts [(a : Int)]).toArray).later hbo
      have lr : wr.heap.size < w3.heap.size := Nat.lt_of_lt_of_le (by simp) hbo.size
      have HL3 := HLk.keep (L := fun j => j = wr.heap.size) hbr (fun j hj => .inl ⟨by omega, by omega⟩)
      clear HLk
      go_wp2_with fail
      refine (takes_in (a : Int) 1 2 _ 1 [(a : Int)] _ HL3 (rd_lit _ _ [(a : Int)] 5 hb7 (by simp [maxLen])) (fun j hj => ⟨by omega, .inr hj⟩)).mono ?_
      rintro e w4 ⟨rfl, HL4, hm4⟩
      rw [takesF_nat _ a _ _ _ (fil_at _ _ (by omega))]
      rw [takL_nat _ _ (by rw [fil_length]; omega)] at HL4
      have HB4 := Lib.hid (Bm (Bt HBk hbr) hm4 (fun i h => Nat.le_trans lw1 h.1))
      clear HL3 hm4 hb7 hbr hbo HBk
      go_wp2_with fail
      refine (len_in _ HL4).mono ?_
      rintro e w' ⟨rfl, rfl⟩
      rw [fil_erase_length _ _ (by omega)]
      have hmm : ((m + 1 - 1 : Nat) : Int) = (m : Int) := by omega
      rw [hmm]
      have hmd : ((m : Int) != 1 + (m : Int) - 1) = false := by simp; omega
      go_wp2_with fail
      clear hmd hmm
      go_loopw [7] (fun i wr => ∃ j : Nat, j ≤ m ∧ i = .int .i64 j ∧ LaneIn w1.heap.size (fun j => False) wr w1.heap.size ((fil (m + 1)).eraseIdx a) 0 ∧ Below W.heap.size W wr) (fun i _ => m - (intOf i).toNat)
      case atStart => exact ⟨0, Nat.zero_le _, rfl, HL4.keep (B0 w4) (fun j hj => hj.elim), HB4.out⟩
      case round =>
        obtain ⟨j, hj, rfl, HLj, HBj⟩ := hrel
        by_cases hlt : j < m
        · have hlt' : (j : Int) < 1 + (m : Int) - 1 := by omega
          obtain ⟨v, hv⟩ : ∃ v : Int, (if a ≤ j then (j : Int) + 1 else (j : Int)) = v := ⟨_, rfl⟩
          have hat : ((fil (m + 1)).eraseIdx a)[j]? = some ⟨1, 2, [v]⟩ := by rw [← hv, fil_erase_at _ _ _ (by omega) (by omega)]; split <;> simp
          have hlen : j < ((fil (m + 1)).eraseIdx a).length := by rw [fil_erase_length _ _ (by omega)]; omega
          have HAT := Lib.hid (And.intro hat hlen)
          clear hat hlen
          by_cases hja : a ≤ j
          · rw [if_pos hja] at hv
            subst hv
            have hja' : (a : Int) ≤ (j : Int) := by omega
            have hv0 : (0 : Int) ≤ (j : Int) + 1 := by omega
            have hv1 : (j : Int) + 1 ≤ 255 := by omega
            go_wp2_with fail
            refine (see_in_ (j : Int) _ HLj).mono ?_
            rintro e w5 ⟨A1, c1, rfl, HF⟩
            rw [seeD_nat _ _ _ HAT.out.1, seeE_nat _ _ HAT.out.2]
            rw [seeD_nat _ _ _ HAT.out.1] at HF
            replace HF := Lib.hid HF
            go_wp2_with fail
            have hwr : IntKind.u8.wrap ((j : Int) + 1) = (j : Int) + 1 := IntWalk.u8_in _ ⟨hv0, hv1⟩
            go_region_held3 (fun w' => w'.cell? ⟨w5.heap.size, 0, none⟩ = some (.int .i64 1) ∧ w'.cell? ⟨w5.heap.size, 1, none⟩ = some (.int .i64 2) ∧ w'.cell? ⟨w5.heap.size, 2, none⟩ = some (.slice A1 1 c1))
              (first
                | go_keep
                | (refine ⟨cell_later hbo (by assumption), cell_later hbo (by assumption), cell_later hbo (by assumption)⟩)
                | (go_split_ands
                   refine ⟨cell_later hbs (by assumption), cell_later hbs (by assumption), cell_later hbs (by assumption)⟩)
                | (go_split_ands
                   refine ⟨cell_later hbo (by assumption), cell_later hbo (by assumption), cell_later hbo (by assumption)⟩))
              (first
                | (go_at_call 28; refine (one_any _ 1 1 _).mono ?_; rintro e w6 ⟨rfl, hbo⟩; have hb56 : Below w5.heap.size w5 w6 := Bt (Bd (Ba (Ba (B0 w5) _) _)) hbo; have hbv := Lib.hid ((Blk.new1 w5 (.cells #[.int .i64 1, .int .i64 2, .slice A1 1 c1] 30) 5 (bts [(j : Int) + 1]).toArray).drew.later hbo))
                | (go_at_call 19; refine (same_any _ _ 1 2 1 2 A1 _ c1 1 [(j : Int) + 1] [(j : Int) + 1] _ (HF.out.rd.below hb56 (fun _ h => h)) (fun i hi => Nat.lt_of_lt_of_le hi hb56.size) (rd_lit _ _ [(j : Int) + 1] 5 hbv.out (by simp [maxLen])) (fun i hi => by subst hi; exact hbv.out.lt)).mono ?_; rintro e w7 ⟨rfl, hbs⟩; rw [sameF_self]))
            clear hwr
            have hbw : Below W.heap.size W w7 := Bt HBj (Bt HF.out.kept (Bt hb56 hbs))
            have HL7 := HLj.below (Bt HF.out.kept (Bt hb56 hbs))
            clear hbv hbs hb56 HF hbo HLj HBj
            go_wp2_with fail
            go_roundw
            case rel => exact ⟨j + 1, by omega, by go_num, HL7, hbw⟩
            case measure => simp [intOf]; omega
          · rw [if_neg hja] at hv
            subst hv
            have hja' : ¬ (a : Int) ≤ (j : Int) := by omega
            have hv0 : (0 : Int) ≤ (j : Int) := by omega
            have hv1 : (j : Int) ≤ 255 := by omega
            go_wp2_with fail
            refine (see_in_ (j : Int) _ HLj).mono ?_
            rintro e w5 ⟨A1, c1, rfl, HF⟩
            rw [seeD_nat _ _ _ HAT.out.1, seeE_nat _ _ HAT.out.2]
            rw [seeD_nat _ _ _ HAT.out.1] at HF
            replace HF := Lib.hid HF
            go_wp2_with fail
            have hwr : IntKind.u8.wrap (j : Int) = (j : Int) := IntWalk.u8_in _ ⟨hv0, hv1⟩
            go_region_held3 (fun w' => w'.cell? ⟨w5.heap.size, 0, none⟩ = some (.int .i64 1) ∧ w'.cell? ⟨w5.heap.size, 1, none⟩ = some (.int .i64 2) ∧ w'.cell? ⟨w5.heap.size, 2, none⟩ = some (.slice A1 1 c1))
              (first
                | go_keep
                | (refine ⟨cell_later hbo (by assumption), cell_later hbo (by assumption), cell_later hbo (by assumption)⟩)
                | (go_split_ands
                   refine ⟨cell_later hbs (by assumption), cell_later hbs (by assumption), cell_later hbs (by assumption)⟩)
                | (go_split_ands
                   refine ⟨cell_later hbo (by assumption), cell_later hbo (by assumption), cell_later hbo (by assumption)⟩))
              (first
                | (go_at_call 28; refine (one_any _ 1 1 _).mono ?_; rintro e w6 ⟨rfl, hbo⟩; have hb56 : Below w5.heap.size w5 w6 := Bt (Bd (Ba (Ba (B0 w5) _) _)) hbo; have hbv := Lib.hid ((Blk.new1 w5 (.cells #[.int .i64 1, .int .i64 2, .slice A1 1 c1] 30) 5 (bts [(j : Int)]).toArray).drew.later hbo))
                | (go_at_call 19; refine (same_any _ _ 1 2 1 2 A1 _ c1 1 [(j : Int)] [(j : Int)] _ (HF.out.rd.below hb56 (fun _ h => h)) (fun i hi => Nat.lt_of_lt_of_le hi hb56.size) (rd_lit _ _ [(j : Int)] 5 hbv.out (by simp [maxLen])) (fun i hi => by subst hi; exact hbv.out.lt)).mono ?_; rintro e w7 ⟨rfl, hbs⟩; rw [sameF_self]))
            clear hwr
            have hbw : Below W.heap.size W w7 := Bt HBj (Bt HF.out.kept (Bt hb56 hbs))
            have HL7 := HLj.below (Bt HF.out.kept (Bt hb56 hbs))
            clear hbv hbs hb56 HF hbo HLj HBj
            go_wp2_with fail
            go_roundw
            case rel => exact ⟨j + 1, by omega, by go_num, HL7, hbw⟩
            case measure => simp [intOf]; omega
        · have hlt' : ¬ (j : Int) < 1 + (m : Int) - 1 := by omega
          go_wp2_with fail
          go_ret
          exact ⟨rfl, HBj⟩
end Go.Proofs.Ytekedgokmmkplaa
