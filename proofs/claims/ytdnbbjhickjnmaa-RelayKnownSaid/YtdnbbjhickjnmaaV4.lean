/- The document's Pack. -/
import Derived.Test.YtdnbbjhickjnmaaV2
import Derived.Test.YtdnbbjhickjnmaaU6
import Derived.Test.YtdnbbjhickjnmaaY7
namespace Go.Proofs.Ytdnbbjhickjnmaa
open Go.RowKit
set_option maxRecDepth 20000
set_option linter.unusedVariables false
set_option linter.unusedSimpArgs false

theorem refpack_bad (f t : Int) (A : Option Addr) (n c : Nat) (w : World) (hc : chkE f t n ≠ 0) :
    Calls Try.prog 40 #[.agg #[.int .i64 f, .int .i64 t, .slice A n c]] w fun e w' => e = .returned (.tuple #[.slice none 0 0, .int .i64 (chkE f t n)]) ∧ Below w.heap.size w w' := by
  have hb : (chkE f t n != 0) = true := by simp [hc]
  generalize hE : chkE f t n = E at hb ⊢
  have HE := Lib.hid hE
  clear hE hc
  go_enter Try.func40, Try.ntmps40
  go_wp2_with fail
  refine (refcheck_any f t A n c _).mono ?_
  rintro e w1 ⟨rfl, hb1⟩
  rw [HE.out]
  go_wp2_with fail
  go_ret2
  exact ⟨rfl, Bt (Ba (B0 w) _) hb1⟩

set_option maxHeartbeats 1000000 in
theorem refpack_ok (T : Nat → Prop) (f t : Int) (A : Option Addr) (c : Nat) (bs : List Int) (w : World) (hr : Rd w T 1 (.slice A bs.length c) bs.length (bts bs)) (hT : ∀ i, T i → i < w.heap.size) (hc : chkE f t bs.length = 0) :
    Calls Try.prog 40 #[.agg #[.int .i64 f, .int .i64 t, .slice A bs.length c]] w fun e w' => ∃ A' c', e = .returned (.tuple #[.slice A' (packL f t bs).length c', .int .i64 0]) ∧ Fresh w w' A' c' (packL f t bs) := by
  obtain ⟨hf, ht, hn⟩ := chk_ok hc
  have hf' := nodeB_bd hf
  have ht' := nodeB_bd ht
  have HC := Lib.hid hc
  have HR := Lib.hid hr
  have P1 := Lib.hid (Wr.put_one [] f (by omega) (by omega))
  have P2 := Lib.hid (Wr.put_one ([] ++ [f]) t (by omega) (by omega))
  have P3 := Lib.hid (Wr.oct_lay ([] ++ [f] ++ [t]) bs (by omega))
  clear hc hf ht hr
  go_enter Try.func40, Try.ntmps40
  go_wp2_with fail
  refine (refcheck_any f t A bs.length c _).mono ?_
  rintro e w1 ⟨rfl, hb1⟩
  rw [HC.out]
  have HB1 := Lib.hid ((Blk.new w 31 #[.int .i64 f, .int .i64 t, .slice A bs.length c]).later hb1)
  have HW1 := Lib.hid (Bt (Ba (B0 w) (.cells #[.int .i64 f, .int .i64 t, .slice A bs.length c] 31)) hb1)
  have HR1 := Lib.hid (HR.out.below HW1.out hT)
  clear hb1
  go_wp2_with fail
  refine (Wr.uwrite_any w1).mono ?_
  rintro e w2 ⟨rfl, hw2, hb2⟩
  obtain ⟨p, hp⟩ : ∃ p, p = w1.heap.size := ⟨_, rfl⟩
  rw [← hp] at hw2 ⊢
  obtain ⟨S2, hS2⟩ : ∃ S2 : Nat → Prop, S2 = fun i => i = p := ⟨_, rfl⟩
  rw [← hS2] at hw2
  have hs2 : ∀ i, S2 i → w1.heap.size ≤ i := fun i hi => by rw [hS2] at hi; omega
  have HS2 := Lib.hid hs2
  have HP2 := Lib.hid hw2
  have HB2 := Lib.hid (HB1.out.later hb2)
  have HR2 := Lib.hid (HR1.out.below hb2 (fun i hi => Nat.lt_of_lt_of_le (hT i hi) HW1.out.size))
  have HW2 := Lib.hid (Bt HW1.out hb2)
  have lw2 := hb2.size
  have lb1 := HB1.out.lt
  obtain ⟨x0, x1, x2, g0, g1, g2⟩ := blk3 HB2.out
  have lb2 := HB2.out.lt
  clear hw2 hb2 hp hS2 hs2
  go_wp2_with fail
  refine (Wr.uput_any S2 p [] 0 f 1 w2 HP2.out (by omega) (by omega) (by omega)).mono ?_
  rw [Wr.putN, P1.out.1, P1.out.2]
  rintro e w3 ⟨rfl, S3, hm3, hw3, hs3⟩
  have hs3' : ∀ i, S3 i → w1.heap.size ≤ i := fun i hi => by rcases hs3 i hi with h | h; exact HS2.out i h; omega
  have HS3 := Lib.hid hs3'
  have HP3 := Lib.hid hw3
  have HB3 := Lib.hid (HB2.out.kept hm3 (fun h => by have := HS2.out _ h; omega))
  have HR3 := Lib.hid (HR2.out.kept hm3 (fun i hi h => by have := HS2.out _ h; have := hT i hi; have := HW1.out.size; omega))
  have HW3 := Lib.hid (Bm HW2.out hm3 (fun i hi => Nat.le_trans HW1.out.size (HS2.out i hi)))
  have lw3 := hm3.size
  clear x0 x1 x2 g0 g1 g2 hm3 hw3 hs3 hs3'
  obtain ⟨x0, x1, x2, g0, g1, g2⟩ := blk3 HB3.out
  have lb3 := HB3.out.lt
  simp only [if_true] at HP3
  go_wp2_with fail
  refine (Wr.uput_any S3 p _ 1 t 1 w3 HP3.out (by omega) (by omega) (by omega)).mono ?_
  rw [Wr.putN, P2.out.1, P2.out.2]
  rintro e w4 ⟨rfl, S4, hm4, hw4, hs4⟩
  have hs4' : ∀ i, S4 i → w1.heap.size ≤ i := fun i hi => by rcases hs4 i hi with h | h; exact HS3.out i h; omega
  have HS4 := Lib.hid hs4'
  have HP4 := Lib.hid hw4
  have HB4 := Lib.hid (HB3.out.kept hm4 (fun h => by have := HS3.out _ h; omega))
  have HR4 := Lib.hid (HR3.out.kept hm4 (fun i hi h => by have := HS3.out _ h; have := hT i hi; have := HW1.out.size; omega))
  have HW4 := Lib.hid (Bm HW3.out hm4 (fun i hi => Nat.le_trans HW1.out.size (HS3.out i hi)))
  have lw4 := hm4.size
  clear x0 x1 x2 g0 g1 g2 hm4 hw4 hs4 hs4'
  obtain ⟨x0, x1, x2, g0, g1, g2⟩ := blk3 HB4.out
  have lb4 := HB4.out.lt
  simp only [if_true] at HP4
  go_wp2_with fail
  refine (Wr.uoctets_any' S4 T p _ bs 2 A c w4 HP4.out (by omega) HR4.out (fun i hi => ⟨Nat.lt_of_lt_of_le (hT i hi) HW4.out.size, fun h => by have := HS4.out _ h; have := hT i hi; have := HW1.out.size; omega⟩) (by omega)).mono ?_
  rw [P3.out.1, P3.out.2]
  rintro e w5 ⟨rfl, S5, hm5, hw5, hs5⟩
  have HP5 := Lib.hid hw5
  have HW5 := Lib.hid (Bm HW4.out hm5 (fun i hi => Nat.le_trans HW1.out.size (HS4.out i hi)))
  clear x0 x1 x2 g0 g1 g2 hm5 hw5 hs5
  go_wp2_with fail
  refine (Wr.uout_any S5 p _ _ w5 HP5.out (by split <;> omega) (by have := packL_len f t bs; unfold packL at this; omega)).mono ?_
  rintro e w6 ⟨A6, c6, rfl, HF⟩
  have HFF := Lib.hid HF
  clear HF
  go_wp2_with fail
  go_ret2
  exact ⟨A6, c6, by simp [packL], own_mod HFF.out.own (Mod.refl (fun _ => False) _) (fun _ _ h => h) HW5.out.size, Bt HW5.out HFF.out.kept⟩
end Go.Proofs.Ytdnbbjhickjnmaa
