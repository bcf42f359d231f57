/- The relay's Pack. -/
import Derived.Test.YtdnbbjhickjnmaaV0
namespace Go.Proofs.Ytdnbbjhickjnmaa
open Go.RowKit
set_option maxRecDepth 20000
set_option linter.unusedVariables false
set_option linter.unusedSimpArgs false

theorem pack_bad (f t : Int) (A : Option Addr) (n c : Nat) (w : World) (hc : chkE f t n ≠ 0) :
    Calls Try.prog 39 #[.agg #[.int .i64 f, .int .i64 t, .slice A n c]] w fun e w' => e = .returned (.tuple #[.slice none 0 0, .int .i64 (chkE f t n)]) ∧ Below w.heap.size w w' := by
  have hb : (chkE f t n != 0) = true := by simp [hc]
  generalize hE : chkE f t n = E at hb ⊢
  have HE := Lib.hid hE
  clear hE hc
  go_enter Try.func39, Try.ntmps39
  go_wp2_with fail
  refine (check_any f t A n c _).mono ?_
  rintro e w1 ⟨rfl, hb1⟩
  rw [HE.out]
  go_wp2_with fail
  go_ret2
  exact ⟨rfl, Bt (Ba (B0 w) _) hb1⟩

set_option maxHeartbeats 1000000 in
theorem pack_ok (T : Nat → Prop) (f t : Int) (A : Option Addr) (c : Nat) (bs : List Int) (w : World) (hr : Rd w T 1 (.slice A bs.length c) bs.length (bts bs)) (hT : ∀ i, T i → i < w.heap.size) (hc : chkE f t bs.length = 0) :
    Calls Try.prog 39 #[.agg #[.int .i64 f, .int .i64 t, .slice A bs.length c]] w fun e w' => ∃ A' c', e = .returned (.tuple #[.slice A' (packL f t bs).length c', .int .i64 0]) ∧ Fresh w w' A' c' (packL f t bs) := by
  obtain ⟨hf, ht, hn⟩ := chk_ok hc
  have hf' := nodeB_bd hf
  have ht' := nodeB_bd ht
  have HC := Lib.hid hc
  have HR := Lib.hid hr
  have P1 := Lib.hid (Wr.put_one [] f (by omega) (by omega))
  have P2 := Lib.hid (Wr.put_one ([] ++ [f]) t (by omega) (by omega))
  have P3 := Lib.hid (Wr.oct_lay ([] ++ [f] ++ [t]) bs (by omega))
  clear hc hf ht hr
  go_enter Try.func39, Try.ntmps39
  go_wp2_with fail
  refine (check_any f t A bs.length c _).mono ?_
  rintro e w1 ⟨rfl, hb1⟩
  rw [HC.out]
  have HB1 := (Blk.new w 31 #[.int .i64 f, .int .i64 t, .slice A bs.length c]).later hb1
  have HW1 := Lib.hid (Bt (Ba (B0 w) (.cells #[.int .i64 f, .int .i64 t, .slice A bs.length c] 31)) hb1)
  have HR1 := Lib.hid (HR.out.below HW1.out hT)
  have hK1 : ∀ i, (i = w.heap.size) → i < w1.heap.size := fun i hi => by subst hi; exact HB1.lt
  have HBK := Lib.hid HB1
  clear hb1
  go_wp2_with fail
  refine (Wr.write_in (fun _ => False) w1 (fun _ h => h.elim) w1.heap.size (Nat.le_refl _)).mono ?_
  rintro e w2 ⟨rfl, HW2, hb2⟩
  obtain ⟨p, hp⟩ : ∃ p, p = w1.heap.size + 1 := ⟨_, rfl⟩
  rw [← hp] at HW2 ⊢
  have B2 := Lib.hid (HBK.out.later hb2)
  obtain ⟨x0, x1, x2, g0, g1, g2⟩ := blk3 B2.out
  have HP2 := Lib.hid HW2
  have HH2 := Lib.hid hb2
  clear hp hb2 HW2 HB1
  go_wp2_with fail
  refine (Wr.put_in f 1 (by omega) _ HP2.out (by simp)).mono ?_
  rintro e w3 ⟨rfl, HW3, hm3⟩
  rw [P1.out.1]
  rw [P1.out.2] at HW3
  have B3 := Lib.hid (B2.out.kept hm3 (fun h => by have := h.1; have := hK1 _ rfl; omega))
  clear x0 x1 x2 g0 g1 g2
  obtain ⟨x0, x1, x2, g0, g1, g2⟩ := blk3 B3.out
  have HP3 := Lib.hid HW3
  have HH3 := Lib.hid (Bm HH2.out hm3 (fun i hi => hi.1))
  clear HW3 hm3 B2 HP2
  go_wp2_with fail
  refine (Wr.put_in t 1 (by omega) _ HP3.out (by simp)).mono ?_
  rintro e w4 ⟨rfl, HW4, hm4⟩
  rw [P2.out.1]
  rw [P2.out.2] at HW4
  have B4 := Lib.hid (B3.out.kept hm4 (fun h => by have := h.1; have := hK1 _ rfl; omega))
  clear x0 x1 x2 g0 g1 g2
  obtain ⟨x0, x1, x2, g0, g1, g2⟩ := blk3 B4.out
  have HP4 := Lib.hid HW4
  have HH4 := Lib.hid (Bm HH3.out hm4 (fun i hi => hi.1))
  clear HW4 hm4 B3 HP3
  go_wp2_with fail
  refine (Wr.octets_in (T := T) bs A c _ HP4.out (HR1.out.below HH4.out (fun i hi => Nat.lt_of_lt_of_le (hT i hi) HW1.out.size)) (fun i hi => ⟨Nat.lt_of_lt_of_le (hT i hi) (Bt HW1.out HH4.out).size, .inl (Nat.lt_of_lt_of_le (hT i hi) HW1.out.size)⟩) (by simp; omega)).mono ?_
  rintro e w5 ⟨rfl, HW5, hm5⟩
  rw [P3.out.1]
  rw [P3.out.2] at HW5
  have HP5 := Lib.hid HW5
  have HH5 := Lib.hid (Bt HW1.out (Bm HH4.out hm5 (fun i hi => hi.1)))
  clear HW5 hm5 HP4 B4 x0 x1 x2 g0 g1 g2
  go_wp2_with fail
  refine (Wr.out_in _ HP5.out (by have := packL_len f t bs; unfold packL at this; omega)).mono ?_
  rintro e w6 ⟨A6, c6, rfl, HF⟩
  have HFF := Lib.hid HF
  clear HF
  go_wp2_with fail
  go_ret2
  exact ⟨A6, c6, by simp [packL], own_mod HFF.out.own (Mod.refl (fun _ => False) _) (fun _ _ h => h) HH5.out.size, Bt HH5.out HFF.out.kept⟩
end Go.Proofs.Ytdnbbjhickjnmaa
