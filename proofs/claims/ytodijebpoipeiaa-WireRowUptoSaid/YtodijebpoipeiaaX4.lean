/- The statement WireNext: the bytes counted up. -/
import Derived.Test.YtodijebpoipeiaaX3
namespace Go.Proofs.Ytodijebpoipeiaa
open Go.RowKit
set_option linter.unusedVariables false
set_option linter.unusedSimpArgs false

set_option maxHeartbeats 4000000 in
theorem next_max (W : World) (size : Int) (hk : bringF size 8 = 7) :
    Calls Try.prog 7 #[.int .i64 9223372036854775807, .int .i64 size] W fun e w' => e = .returned (.bool true) ∧ Below W.heap.size W w' := by
  have HM := Lib.hid hk
  have HL := Lib.hid (show (putL [] 9223372036854775807 8).length = 8 by rw [show (8 : Int) = ((8 : Nat) : Int) from rfl, putL_ok (by omega) (by omega) (by omega) (by rw [p256_8]; omega), be_length])
  clear hk
  go_enter Try.func7, Try.ntmps7
  go_wp2_with fail
  refine (works_any W).mono ?_
  rintro e w1 ⟨rfl, hb1⟩
  go_wp2_with fail
  refine (bring_any size 8 _ (by omega)).mono ?_
  rintro e w' ⟨rfl, rfl⟩
  rw [HM.out]
  go_wp2_with fail
  refine (sput_any 9223372036854775807 8 (by omega) _).mono ?_
  rintro e w2 ⟨A2, c2, rfl, HF2⟩
  rw [HL.out]
  have HB2 := Lib.hid (Bt hb1 HF2.kept)
  clear HF2 hb1
  go_wp2_with fail
  go_ret
  exact ⟨rfl, HB2.out⟩

set_option maxHeartbeats 4000000 in
theorem next_step (W : World) (n size : Int) (k : Nat) (hk : bringF size 8 + 1 = k) (h0 : 0 ≤ n) (hlt : n < p256 k) (hn : n < 9223372036854775807) :
    Calls Try.prog 7 #[.int .i64 n, .int .i64 size] W fun e w' => e = .returned (.bool true) ∧ Below W.heap.size W w' := by
  have hkb := bringF_lt size 8 (by omega)
  obtain ⟨m, hm⟩ : ∃ m, m = bringF size 8 := ⟨_, rfl⟩
  rw [← hm] at hk hkb
  have HM := Lib.hid hm.symm
  clear hm
  have hm1 : (1 : Int) + m = (k : Int) := by omega
  have hkA : (k : Int) ≤ 8 := by omega
  have hkB : (1 : Int) ≤ (k : Int) := by omega
  have HK := Lib.hid (show 1 ≤ k ∧ k ≤ 8 by omega)
  have HLT := Lib.hid hlt
  have HL := Lib.hid (putL_ok HK.out.1 HK.out.2 h0 hlt)
  have hk0 : ((k : Int) == 0) = false := by rw [beq_eq_false_iff_ne]; omega
  have hkk : ((k : Int) != (k : Int)) = false := by simp
  have hnm : (n == 9223372036854775807) = false := by rw [beq_eq_false_iff_ne]; omega
  clear hk hkb hlt
  go_enter Try.func7, Try.ntmps7
  go_wp2_with fail
  refine (works_any W).mono ?_
  rintro e w1 ⟨rfl, hb1⟩
  go_wp2_with fail
  refine (bring_any size 8 _ (by omega)).mono ?_
  rintro e w' ⟨rfl, rfl⟩
  rw [HM.out]
  go_wp2_with fail
  refine (sput_any n k (by omega) _).mono ?_
  rintro e w2 ⟨A2, c2, rfl, HF2⟩
  rw [HL.out] at HF2 ⊢
  have ho := HF2.own
  rw [be_length] at ho ⊢
  obtain ⟨g, rfl, hg, hc1, hc2, hO⟩ := own_at ho (by have := HK.out.1; omega)
  have hg' : W.heap.size ≤ g := Nat.le_trans hb1.size hg
  have HG := Lib.hid hg'
  have HB2 := Lib.hid (Bt hb1 HF2.kept)
  have HO := Lib.hid hO
  have HC := Lib.hid (And.intro hc1 hc2)
  clear HF2 hb1 ho hO hg hg' hc2 hnm
  have hnm : (n == 9223372036854775807) = false := by rw [beq_eq_false_iff_ne]; omega
  go_wp2_with fail
  go_loopw [6] (fun i wr => ∃ q j : Nat, q + j = k ∧ i = .int .i64 ((q : Int) - 1) ∧ OwnAt wr g (be q (n / p256 j) ++ List.replicate j 0) ∧ n % p256 j = p256 j - 1 ∧ Below W.heap.size W wr) (fun i _ => (intOf i + 1).toNat)
  case atStart => exact ⟨k, 0, rfl, by go_num, by simpa [p256] using HO.out, by simp [p256], HB2.out⟩
  case round =>
    obtain ⟨q, j, hq, rfl, hOr, hff, hbr⟩ := hrel
    have hlen : (be q (n / p256 j) ++ List.replicate j 0).length = k := by simp [be_length, hq]
    have hn1 : n + 1 < 9223372036854775808 := by omega
    cases q with
    | zero =>
      rw [show (((0 : Nat) : Int) - 1) = -1 from rfl]
      have hjk : j = k := by omega
      have hLn : putL [] (n + 1) k = [] := putL_bad (.inr (by rw [next_over k n h0 HLT.out (by rw [← hjk]; exact hff)]; exact Int.le_refl _))
      have HLn := Lib.hid hLn
      have HBr := Lib.hid hbr
      clear hlen hjk hLn hff hOr hq hbr
      go_wp2_with fail
      refine (sput_any (n + 1) k hn1 _).mono ?_
      rintro e w3 ⟨A3, c3, rfl, HF3⟩
      rw [HLn.out]
      have HB3 := Lib.hid (Bt HBr.out HF3.kept)
      clear HF3
      go_wp2_with fail
      go_ret
      exact ⟨rfl, HB3.out⟩
    | succ m =>
      rw [show (((m + 1 : Nat) : Int) - 1) = (m : Int) by omega]
      have hjk : j < k := by omega
      have hmk : m < (be (m + 1) (n / p256 j) ++ List.replicate j 0).length := by rw [hlen]; omega
      have hat := hOr.cell m hmk
      have hx : (be (m + 1) (n / p256 j) ++ List.replicate j 0)[m] = n / p256 j % 256 := by
        simp only [be]
        rw [List.getElem_append_left (by simp [be_length]), List.getElem_append_right (by simp [be_length])]
        simp [be_length]
      rw [hx] at hat
      have hfr := hOr.free m
      have hset : ∀ y : Int, (be (m + 1) (n / p256 j) ++ List.replicate j 0).set m y = be m (n / p256 j / 256) ++ ([y] ++ List.replicate j 0) := by
        intro y
        simp only [be]
        rw [List.append_assoc, List.set_append_right _ _ (by simp [be_length]), be_length, Nat.sub_self]
        simp
      obtain ⟨x, hxx⟩ : ∃ x, x = n / p256 j % 256 := ⟨_, rfl⟩
      have hx0 : 0 ≤ x := by omega
      have hx1 : x < 256 := by omega
      rw [← hxx] at hat
      have HSET := Lib.hid (fun y => hOr.set_ m hmk y)
      have HS2 := Lib.hid hset
      have HX := Lib.hid hxx
      have HFF := Lib.hid hff
      have HQ := Lib.hid (And.intro hq (And.intro hlen hjk))
      have HBr := Lib.hid hbr
      have HOr := Lib.hid hOr
      have hm0 : (0 : Int) ≤ (m : Int) := by omega
      have hmk2 : (m : Int) < (k : Int) := by omega
      have hmk3 : m < k := by omega
      clear hset hxx hff hq hlen hx hmk hbr hOr hjk
      by_cases h255 : x = 255
      · have hb255 : (x == 255) = true := by rw [beq_iff_eq]; exact h255
        have H255 := Lib.hid h255
        clear h255 hx1
        go_wp2_with fail
        go_roundw
        case rel =>
          refine ⟨m, j + 1, by have := HQ.out.1; omega, by go_num, ?_, ff_succ j n HFF.out (by rw [← HX.out]; exact H255.out), HBr.out.setCell HG.out _⟩
          have := HSET.out 0
          rw [HS2.out] at this
          rw [← p256_succ_div, List.replicate_succ]
          exact this
        case measure => simp [intOf]
      · have hb255 : (x == 255) = false := by rw [beq_eq_false_iff_ne]; exact h255
        have hx2 : x ≤ 254 := by omega
        have hfit := next_fits k j n HQ.out.2.2 h0 HFF.out (by rw [← HX.out]; exact h255) HLT.out
        have hLn : putL [] (n + 1) k = be k (n + 1) := putL_ok HK.out.1 HK.out.2 (by omega) hfit
        have hnx := be_next k j n HQ.out.2.2 HFF.out (by rw [← HX.out]; exact h255)
        rw [show k - j - 1 = m by have := HQ.out.1; omega, ← HX.out] at hnx
        have HLn := Lib.hid hLn
        have HNX := Lib.hid hnx
        clear h255 hfit hLn hnx hx1
        go_wp2_with fail
        refine (sput_any (n + 1) k hn1 _).mono ?_
        rintro e w3 ⟨A3, c3, rfl, HF3⟩
        rw [HLn.out] at HF3 ⊢
        rw [be_length]
        have hO3 := HOr.out.below HF3.kept
        have hmk' : m < (be (m + 1) (n / p256 j) ++ List.replicate j 0).length := by rw [HQ.out.2.1]; omega
        have hat3 := (cell_later HF3.kept hat)
        have hfr3 := hO3.free m
        have hO4 := hO3.set_ m hmk' (x + 1)
        rw [HS2.out, ← HNX.out] at hO4
        have hgo : g < w3.heap.size := hO3.lt
        have HB3 := Lib.hid (Bt HBr.out HF3.kept)
        have HF3' := Lib.hid HF3
        have HO4 := Lib.hid hO4
        have hge : ∀ i, (Value.slice A3 (be k (n + 1)).length c3).ownBlock = some i → i ≠ g := fun i hi he => by have := own_ge HF3.own i hi; have := HOr.out.lt; omega
        have HGE := Lib.hid hge
        clear HF3 hO3 hO4 hmk' hat hfr hgo hge
        go_wp2_with fail
        refine (eq_bytes _ _ _ _ (be k (n + 1)) (be k (n + 1)) _ (by have h := (Rd.of_own HF3'.out.own).kept ((Mod.refl (fun i => i = g) w3).setCell (p := ⟨g, m, none⟩) (.inl rfl) (.int .u8 (x + 1))) (fun i hi he => HGE.out i hi he); rw [be_length] at h ⊢; exact h) (HO4.out.rd k c2 (be_length _ _).symm HC.out.1 HC.out.2)).mono ?_
        rintro e w5 ⟨rfl, n5, rfl⟩
        rw [eqB_self]
        go_wp2_with fail
        go_ret
        exact ⟨rfl, BdN (HB3.out.setCell HG.out _) n5⟩

theorem wireNext_walk (W : World) (n : Int) (wn : (Lit.int .i64 n).wf = true) (size : Int) (ws : (Lit.int .i64 size).wf = true) :
    Calls Try.prog 7 #[.int .i64 n, .int .i64 size] W fun e w' => e = .returned (.bool true) ∧ Below W.heap.size W w' := by
  have h := i64_wf wn
  have hkb := bringF_lt size 8 (by omega)
  obtain ⟨k, hk⟩ := Int.eq_ofNat_of_zero_le (show 0 ≤ bringF size 8 + 1 by omega)
  by_cases hbad : n < 0 ∨ p256 k ≤ n
  · exact next_none W n size k h hk hbad
  · by_cases hm : n = 9223372036854775807
    · subst hm
      have h8 : k = 8 := by
        have hk8 : k ≤ 8 := by omega
        refine Classical.byContradiction fun hne => ?_
        obtain ⟨d, hd⟩ : ∃ d, d + k = 7 := ⟨7 - k, by omega⟩
        have h2 := p256_add d k
        rw [hd, p256_7'] at h2
        have h3 := p256_pos d
        have h4 : 1 * p256 k ≤ p256 d * p256 k := Int.mul_le_mul_of_nonneg_right (by omega) (by have := p256_pos k; omega)
        omega
      exact next_max W size (by omega)
    · exact next_step W n size k hk (by omega) (by omega) (by omega)
end Go.Proofs.Ytodijebpoipeiaa
