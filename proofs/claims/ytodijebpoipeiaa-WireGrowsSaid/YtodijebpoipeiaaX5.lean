/- The statement WireGrows: eats. -/
import Derived.Test.YtodijebpoipeiaaW12
import Derived.Test.YtodijebpoipeiaaQ1
namespace Go.Proofs.Ytodijebpoipeiaa
open Go.RowKit
set_option linter.unusedVariables false
set_option linter.unusedSimpArgs false

def eatE (bs : List Int) (what size : Int) : Int := if what = 0 then getE (bs ++ [1, 2, 3]) size else if what = 1 then bytE (bs ++ [1, 2, 3]) size else roE (bs ++ [1, 2, 3]) (size - 2)
def eatL (bs : List Int) (what size : Int) : List Int := if what = 0 then getL (bs ++ [1, 2, 3]) size else if what = 1 then bytL (bs ++ [1, 2, 3]) size else roL (bs ++ [1, 2, 3]) (size - 2)

set_option maxHeartbeats 2000000 in
/-- eats, where it finds what was written. -/
theorem eats_any (T : Nat → Prop) (A : Option Addr) (c : Nat) (bs : List Int) (what size : Int) (W : World) (hr : Rd W T 1 (.slice A bs.length c) bs.length (bts bs)) (hT : ∀ i, T i → i < W.heap.size) (hb : Byt bs) (hl : bs.length ≤ 100000) (hw : what = 0 ∨ what = 1 ∨ what = 2) (hs : 0 ≤ size) (hs1 : size < 9223372036854775807)
    (he : eatE bs what size = 0) (h3 : (eatL bs what size).length = 3) :
    Calls Try.prog 38 #[.slice A bs.length c, .int .i64 what, .int .i64 size] W fun e w' => e = .returned (.bool true) ∧ Below W.heap.size W w' := by
  obtain ⟨i0, hi0, hz0, hz1, hz2⟩ := info_parts info5
  have HR := Lib.hid hr
  have HE := Lib.hid he
  have H3 := Lib.hid h3
  have HB := Lib.hid (Byt.append hb (show Byt [1, 2, 3] by intro x hx; simp at hx; omega))
  have HL := Lib.hid hl
  clear hr he h3 hb hl
  rcases hw with rfl | rfl | rfl
  all_goals
    go_enter Try.func38, Try.ntmps38
    go_wp2_with fail
    refine (copy_bytes T _ bs W HR.out (by have := HL.out; omega)).mono ?_
    rintro e w1 ⟨A1, c1, rfl, HF1⟩
    have hb1 := HF1.kept
    have HO1 := Lib.hid (own_below HF1.own (Ba (B0 w1) (.cells (bts [1, 2, 3]).toArray 5)))
    have HLT := Lib.hid (rd_lit _ _ [1, 2, 3] 5 (Blk.new w1 5 (bts [1, 2, 3]).toArray) (by simp [maxLen]))
    clear HF1
    go_wp2_with (at_builtin; refine wpList_append_rd _ rfl (.tmp 10) (.tmp 11) _ rfl W.heap.size 5 i0 _ 1 1 Try.underlying27 hi0 hz0 hz1 hz2 rfl (by omega) (.slice A1 bs.length c1) bs.length (bts bs) rfl HO1.out (fun i => i = w1.heap.size) (.slice (some ⟨w1.heap.size, 0, none⟩) 3 3) 3 (bts [1, 2, 3]) rfl HLT.out (bts_one _) (by have := HL.out; simp only [maxLen]; omega) (by have := HL.out; omega) (by have := hb1.size; simp; omega) ?_; intro v2 w2 HA; obtain ⟨A2, c2, rfl⟩ := own_slice HA.own)
    have hb2 : Below W.heap.size W w2 := (Ba hb1 _).grown HA.grown (Ba hb1 _).size (own_ge HO1.out)
    have ho2 : w2.ownsRow W.heap.size 5 1 (.slice A2 (bs ++ [1, 2, 3]).length c2) (bs ++ [1, 2, 3]).length (bts (bs ++ [1, 2, 3])) := by
      have := HA.own
      rw [← bts_append] at this
      rw [List.length_append]
      exact this
    obtain ⟨cs, hcs⟩ : ∃ cs, cs = bs ++ [1, 2, 3] := ⟨_, rfl⟩
    have hcl : (bs.length : Nat) + 3 = cs.length := by rw [hcs]; simp
    have hbc : Byt cs := by rw [hcs]; exact HB.out
    have hll : cs.length ≤ 100003 := by rw [← hcl]; have := HL.out; omega
    rw [← hcs] at ho2
    unfold eatE at HE
    unfold eatL at H3
    rw [← hcs] at HE H3
    rw [hcl]
    have HO2 := Lib.hid ho2
    have HB2 := Lib.hid hb2
    have HBC := Lib.hid hbc
    clear HO1 HLT HA hb2 ho2 hcs hcl hbc hb1 HB
    refine (rnew_any _ A2 c2 cs _ (Rd.of_own HO2.out) (fun i hi => own_lt HO2.out i hi) (by omega)).mono ?_
    rintro e w3 ⟨r, S, rfl, HR3, hb3, hS⟩
    have HB3 := Lib.hid (Bt HB2.out hb3)
    have HSl := Lib.hid (fun i hi => Nat.le_trans HB2.out.size (hS i hi))
    clear hb3 hS
    go_wp2_with fail
  · refine (get_any S r cs size _ HR3 HBC.out).mono ?_
    rintro e w4 ⟨rfl, hm4, HR4⟩
    rw [show getE cs size = 0 by simpa using HE.out]
    have H3' : (getL cs size).length = 3 := by simpa using H3.out
    have HB4 := Lib.hid (Bm HB3.out hm4 HSl.out)
    have HX := Lib.hid H3'
    clear hm4 HE H3 H3' HB3 HR3
    go_wp2_with fail
    refine (left_any S r _ _ HR4).mono ?_
    rintro e w5 ⟨rfl, n5, rfl⟩
    rw [HX.out]
    go_wp2_with fail
    go_ret
    exact ⟨rfl, BdN HB4.out n5⟩
  · refine (rbytes_any S r cs size _ HR3).mono ?_
    rintro e w4 ⟨A4, c4, rfl, ho4, hm4, HR4⟩
    rw [show bytE cs size = 0 by simpa using HE.out]
    have H3' : (bytL cs size).length = 3 := by simpa using H3.out
    have HB4 := Lib.hid (Bm HB3.out hm4 HSl.out)
    have HX := Lib.hid H3'
    clear hm4 HE H3 H3' HB3 HR3 ho4
    go_wp2_with fail
    refine (left_any S r _ _ HR4).mono ?_
    rintro e w5 ⟨rfl, n5, rfl⟩
    rw [HX.out]
    go_wp2_with fail
    go_ret
    exact ⟨rfl, BdN HB4.out n5⟩
  · refine (roctets_any S r cs (size - 2) _ HR3 HBC.out).mono ?_
    rintro e w4 ⟨A4, c4, rfl, ho4, hm4, HR4⟩
    rw [show roE cs (size - 2) = 0 by simpa using HE.out]
    have H3' : (roL cs (size - 2)).length = 3 := by simpa using H3.out
    have HB4 := Lib.hid (Bm HB3.out hm4 HSl.out)
    have HX := Lib.hid H3'
    clear hm4 HE H3 H3' HB3 HR3 ho4
    go_wp2_with fail
    refine (left_any S r _ _ HR4).mono ?_
    rintro e w5 ⟨rfl, n5, rfl⟩
    rw [HX.out]
    go_wp2_with fail
    go_ret
    exact ⟨rfl, BdN HB4.out n5⟩

theorem putE_zero {n size : Int} (h : putE n size = 0) : 1 ≤ size ∧ size ≤ 8 ∧ 0 ≤ n ∧ n < p256 size.toNat := by
  unfold putE at h
  split at h
  · omega
  · split at h
    · omega
    · omega
theorem eat_put (n size : Int) (h : putE n size = 0) (hn : n < 9223372036854775808) : eatE (be size.toNat n) 0 size = 0 ∧ (eatL (be size.toNat n) 0 size).length = 3 := by
  obtain ⟨h1, h2, h3, h4⟩ := putE_zero h
  obtain ⟨k, rfl⟩ := Int.eq_ofNat_of_zero_le (show 0 ≤ size by omega)
  simp only [Int.toNat_natCast] at h4 ⊢
  have ht : (be k n ++ [1, 2, 3]).take k = be k n := by rw [List.take_append_of_le_length (by rw [be_length]; omega), List.take_of_length_le (by rw [be_length]; omega)]
  have e : eatE (be k n) 0 (k : Int) = 0 := by
    simp only [eatE, if_true, getE, Int.toNat_natCast, ht, num_be, List.length_append, be_length]
    rw [if_neg (by omega), if_neg (by simp; omega), Int.emod_eq_of_lt h3 h4, if_neg (by omega)]
  refine ⟨e, ?_⟩
  simp only [eatE, if_true] at e
  simp only [eatL, if_true, getL]
  rw [if_pos e, Int.toNat_natCast, List.length_drop, List.length_append, be_length]
  simp
theorem eat_bytes (bs : List Int) : eatE bs 1 bs.length = 0 ∧ (eatL bs 1 bs.length).length = 3 := by
  have e : bytE (bs ++ [1, 2, 3]) bs.length = 0 := by
    unfold bytE
    rw [if_neg (by omega), if_neg (by simp; omega)]
  refine ⟨by simpa [eatE] using e, ?_⟩
  simp only [eatL]
  rw [if_neg (by omega), if_pos trivial, bytL, if_pos e, Int.toNat_natCast, List.length_drop]
  simp
theorem eat_octets (bs : List Int) (h : bs.length ≤ 65535) : eatE (be 2 bs.length ++ bs) 2 (bs.length + 2) = 0 ∧ (eatL (be 2 bs.length ++ bs) 2 (bs.length + 2)).length = 3 := by
  have ht : ((be 2 (bs.length : Int) ++ bs) ++ [1, 2, 3]).take 2 = be 2 bs.length := by
    rw [List.append_assoc, List.take_append_of_le_length (by rw [be_length]; omega), List.take_of_length_le (by rw [be_length]; omega)]
  have hn : num (be 2 (bs.length : Int)) = bs.length := by rw [num_be, p256_2]; exact Int.emod_eq_of_lt (by omega) (by omega)
  have hl : ((be 2 (bs.length : Int) ++ bs) ++ [1, 2, 3]).length = bs.length + 5 := by simp [be_length]; omega
  have e : roE ((be 2 (bs.length : Int) ++ bs) ++ [1, 2, 3]) ((bs.length : Int) + 2 - 2) = 0 := by
    unfold roE
    rw [ht, hn, hl, if_neg (by omega), if_neg (by omega), if_neg (by omega)]
  refine ⟨by simpa [eatE] using e, ?_⟩
  simp only [eatL]
  rw [if_neg (by omega), if_neg (by omega), roL, if_pos e, ht, hn, List.length_drop, List.length_drop, hl]
  simp
end Go.Proofs.Ytodijebpoipeiaa
