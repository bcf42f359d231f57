/- Walk: works. -/
import Derived.Test.YtodijebpoipeiaaW11
namespace Go.Proofs.Ytodijebpoipeiaa
open Go.RowKit
set_option linter.unusedVariables false
set_option linter.unusedSimpArgs false

theorem rd_lit (W : World) (g : Nat) (xs : List Int) (t : TypeId) (h : Blk W g t (bts xs).toArray) (hm : xs.length ≤ maxLen) : Rd W (fun k => k = g) 1 (.slice (some ⟨g, 0, none⟩) xs.length xs.length) xs.length (bts xs) := by
  refine ⟨by simp [bts], _, xs.length, rfl, Nat.le_refl _, hm, fun hn => ⟨g, 0, rfl, rfl, fun j u hu => ?_⟩⟩
  rw [h.cell, Nat.zero_add]
  simpa using hu

theorem eqB_self (xs : List Int) : eqB xs xs = true := by simp [eqB]
theorem putE_1 : putE 4660 2 = 0 := by decide +kernel
theorem putL_1 : putL [] 4660 2 = [18, 52] := by decide +kernel
theorem octE_1 : octE [119] = 0 := by decide +kernel
theorem octL_1 : octL [18, 52] [119] = [18, 52, 0, 1, 119] := by decide +kernel
theorem getE_1 : getE [18, 52, 0, 1, 119, 136] 2 = 0 := by decide +kernel
theorem getV_1 : getV [18, 52, 0, 1, 119, 136] 2 = 4660 := by decide +kernel
theorem getL_1 : getL [18, 52, 0, 1, 119, 136] 2 = [0, 1, 119, 136] := by decide +kernel
theorem roE_1 : roE [0, 1, 119, 136] 1 = 0 := by decide +kernel
theorem roV_1 : roV [0, 1, 119, 136] 1 = [119] := by decide +kernel
theorem roL_1 : roL [0, 1, 119, 136] 1 = [136] := by decide +kernel
theorem bytE_1 : bytE [136] 1 = 0 := by decide +kernel
theorem bytV_1 : bytV [136] 1 = [136] := by decide +kernel
theorem bytL_1 : bytL [136] 1 = [] := by decide +kernel
theorem endE_1 : endE [] = 0 := by decide +kernel
theorem byt_1 : Byt [18, 52, 0, 1, 119, 136] := by intro x hx; simp at hx; omega

set_option maxHeartbeats 2000000 in
theorem works_any (w : World) : Calls Try.prog 25 #[] w fun e w' => e = .returned (.bool true) ∧ Below w.heap.size w w' := by
  go_enter Try.func25, Try.ntmps25
  go_wp2_with fail
  refine (write_in (fun _ => False) w (fun _ h => h.elim) w.heap.size (Nat.le_refl _)).mono ?_
  rintro e w1 ⟨rfl, HW1, hb1⟩
  go_wp2_with fail
  refine (put_in 4660 2 (by omega) _ HW1 (by simp)).mono ?_
  rintro e w2 ⟨rfl, HW2, hm2⟩
  rw [putE_1]
  rw [putL_1] at HW2
  have HB2 := Lib.hid (Bm hb1 hm2 (fun i hi => hi.1))
  clear HW1 hb1 hm2
  go_wp2_with fail
  refine (octets_in (T := fun i => i = w2.heap.size) [119] _ 1 _ (HW2.keep (L := fun i => i = w2.heap.size) (Ba (B0 w2) _) (fun i hi => .inl (by subst hi; simp))) (rd_lit _ _ [119] 5 (Blk.new w2 5 _) (by simp [maxLen])) (fun i hi => by subst hi; simp) (by simp)).mono ?_
  rintro e w3 ⟨rfl, HW3, hm3⟩
  rw [octE_1]
  rw [octL_1] at HW3
  have HB3 := Lib.hid (Bm (Ba HB2.out _) hm3 (fun i hi => hi.1))
  clear HW2 HB2 hm3
  go_wp2_with fail
  refine (wbytes_in (T := fun i => i = w3.heap.size) [136] _ 1 _ (HW3.below (Ba (B0 w3) _)) (rd_lit _ _ [136] 5 (Blk.new w3 5 _) (by simp [maxLen])) (fun i hi => by subst hi; simp) (by simp)).mono ?_
  rintro e w4 ⟨rfl, HW4, hm4⟩
  rw [show ([18, 52, 0, 1, 119] : List Int) ++ [136] = [18, 52, 0, 1, 119, 136] from rfl] at HW4
  have HB4 := Lib.hid (Bm (Ba HB3.out _) hm4 (fun i hi => hi.1))
  clear HW3 HB3 hm4
  go_wp2_with fail
  refine (out_in _ HW4 (by simp)).mono ?_
  rintro e w5 ⟨A5, c5, rfl, HF5⟩
  have HB5 := Lib.hid (Bt HB4.out HF5.kept)
  have HW5 := HW4.below HF5.kept
  replace HF5 := Lib.hid HF5
  clear HW4 HB4
  go_wp2_with fail
  refine (eq_bytes _ _ _ _ [18, 52, 0, 1, 119, 136] [18, 52, 0, 1, 119, 136] _ (HF5.out.rd1 _) (rd_lit _ _ [18, 52, 0, 1, 119, 136] 5 (Blk.new w5 5 _) (by simp [maxLen]))).mono ?_
  rintro e w6 ⟨rfl, n6, hw6⟩
  rw [eqB_self]
  have hb6 : Below w5.heap.size w5 w6 := by rw [hw6]; exact BdN (Ba (B0 w5) _) n6
  have HB6 := Lib.hid (Bt HB5.out hb6)
  have HW6 := HW5.below hb6
  clear hw6 HB5 HW5 hb6
  go_wp2_with fail
  refine (out_in _ HW6 (by simp)).mono ?_
  rintro e w7 ⟨A7, c7, rfl, HF7⟩
  have HB7 := Lib.hid (Bt HB6.out HF7.kept)
  replace HF7 := Lib.hid HF7
  clear HW6 HB6
  go_wp2_with fail
  refine (rnew_any _ A7 c7 [18, 52, 0, 1, 119, 136] _ HF7.out.rd (fun i hi => hi) (by simp)).mono ?_
  rintro e w8 ⟨r, S, rfl, HR8, hb8, hS7⟩
  have hSl := fun i hi => Nat.le_trans HB7.out.size (hS7 i hi)
  have hSn : ∀ i, S i → i < w8.heap.size := by obtain ⟨_, _, _, _, h⟩ := HR8; exact h.1
  have HS := Lib.hid (And.intro hSl hSn)
  have HB8 := Lib.hid (Bt HB7.out hb8)
  clear HB7 hb8 hS7 hSl hSn HF7
  go_wp2_with fail
  refine (get_any S r _ 2 _ HR8 byt_1).mono ?_
  rintro e w9 ⟨rfl, hm9, HR9⟩
  rw [getV_1, getE_1]
  rw [getL_1] at HR9
  have HB9 := Lib.hid (Bm HB8.out hm9 HS.out.1)
  have lw9 := hm9.size
  clear HB8 HR8 hm9
  go_wp2_with fail
  refine (roctets_any S r _ 1 _ HR9 (by intro x hx; simp at hx; omega)).mono ?_
  rintro e w10 ⟨A10, c10, rfl, ho10, hm10, HR10⟩
  rw [roV_1] at ho10 ⊢
  rw [roE_1]
  rw [roL_1] at HR10
  have HB10 := Lib.hid (Bm HB9.out hm10 HS.out.1)
  have lw10 := hm10.size
  have HO10 := Lib.hid ho10
  clear HB9 HR9 hm10 ho10
  go_wp2_with fail
  refine (rbytes_any S r _ 1 _ HR10).mono ?_
  rintro e w11 ⟨A11, c11, rfl, ho11, hm11, HR11⟩
  rw [bytV_1] at ho11 ⊢
  rw [bytE_1]
  rw [bytL_1] at HR11
  have HB11 := Lib.hid (Bm HB10.out hm11 HS.out.1)
  have lw11 := hm11.size
  have R10 := Lib.hid ((Rd.of_own HO10.out).kept hm11 (fun i hi hs => by have := own_ge HO10.out i hi; have := HS.out.2 i hs; omega))
  have L10 := Lib.hid (fun i (hi : (Value.slice A10 [(119 : Int)].length c10).ownBlock = some i) => Nat.lt_of_lt_of_le (own_lt HO10.out i hi) lw11)
  have HO11 := Lib.hid ho11
  clear HB10 HR10 hm11 ho11 HO10
  go_wp2_with fail
  refine (eq_bytes _ _ _ _ [119] [119] _ (R10.out.below (Ba (B0 w11) _) L10.out) (rd_lit _ _ [119] 5 (Blk.new w11 5 _) (by simp [maxLen]))).mono ?_
  rintro e w12 ⟨rfl, n12, hw12⟩
  rw [eqB_self]
  have hb12 : Below w11.heap.size w11 w12 := by rw [hw12]; exact BdN (Ba (B0 w11) _) n12
  have HB12 := Lib.hid (Bt HB11.out hb12)
  have HR12 := HR11.below hb12
  have R11 := Lib.hid ((Rd.of_own HO11.out).below hb12 (fun i hi => own_lt HO11.out i hi))
  have L11 := Lib.hid (fun i (hi : (Value.slice A11 [(136 : Int)].length c11).ownBlock = some i) => Nat.lt_of_lt_of_le (own_lt HO11.out i hi) hb12.size)
  clear hw12 HB11 HR11 hb12 HO11 R10 L10
  go_wp2_with fail
  refine (eq_bytes _ _ _ _ [136] [136] _ (R11.out.below (Ba (B0 w12) _) L11.out) (rd_lit _ _ [136] 5 (Blk.new w12 5 _) (by simp [maxLen]))).mono ?_
  rintro e w13 ⟨rfl, n13, hw13⟩
  rw [eqB_self]
  have hb13 : Below w12.heap.size w12 w13 := by rw [hw13]; exact BdN (Ba (B0 w12) _) n13
  have HB13 := Lib.hid (Bt HB12.out hb13)
  have HR13 := HR12.below hb13
  clear hw13 HB12 HR12 hb13 R11 L11
  go_wp2_with fail
  refine (end_any S r _ _ HR13).mono ?_
  rintro e w14 ⟨rfl, n14, rfl⟩
  rw [endE_1]
  go_wp2_with fail
  go_ret
  exact ⟨rfl, BdN HB13.out n14⟩
end Go.Proofs.Ytodijebpoipeiaa
