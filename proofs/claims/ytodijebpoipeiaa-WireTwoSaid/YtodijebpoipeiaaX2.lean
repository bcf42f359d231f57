/- The statement WireTwo: its walk. -/
import Derived.Test.YtodijebpoipeiaaW12
namespace Go.Proofs.Ytodijebpoipeiaa
open Go.RowKit
set_option linter.unusedVariables false
set_option linter.unusedSimpArgs false

theorem Rd.own {w : World} {base n : Nat} {e : TypeId} {sz : Nat} {v : Value} {cs : List Value} (h : w.ownsRow base e sz v n cs) : Rd w (fun i => base ≤ i ∧ i < w.heap.size) sz v n cs := (Rd.of_own h).mono (fun i hi => ⟨own_ge h i hi, own_lt h i hi⟩)
theorem bytE_in (xs : List Int) (k : Nat) (h : k ≤ xs.length) : bytE xs k = 0 ∧ bytV xs k = xs.take k ∧ bytL xs k = xs.drop k := by
  have e : bytE xs k = 0 := by unfold bytE; rw [if_neg (by omega), if_neg (by omega)]
  exact ⟨e, by rw [bytV, if_pos e, Int.toNat_natCast], by rw [bytL, if_pos e, Int.toNat_natCast]⟩
theorem putL8_len (v : Int) : (putL [] v 8).length ≤ 8 := by unfold putL; split <;> simp [be_length]

set_option maxHeartbeats 2000000 in
theorem two_walk1 (W : World) (A : Option Addr) (c : Nat) (xs : List Int) (far n : Int) (wn : (Lit.int .i64 n).wf = true) (hb : Byt xs) (hl : xs.length ≤ 140737488351232) (hr : Rd W (fun i => i < W.heap.size) 1 (.slice A xs.length c) xs.length (bts xs)) :
    Calls Try.prog 9 #[.slice A xs.length c, .int .i64 far, .int .i64 n] W fun e w' => e = .returned (.bool true) ∧ Below W.heap.size W w' := by
  have hw1 : n < 9223372036854775808 := (i64_wf wn).2
  obtain ⟨_, hcap1, hcap2⟩ := hr.cap
  unfold maxLen at hcap2
  obtain ⟨k, hk⟩ := Int.eq_ofNat_of_zero_le (bringF_lt far ((xs.length : Int) + 1) (by omega)).1
  have hk1 : k ≤ xs.length := by have := (bringF_lt far ((xs.length : Int) + 1) (by omega)).2; omega
  obtain ⟨hE, hV, hL⟩ := bytE_in xs k hk1
  obtain ⟨hE', hV', hL'⟩ := bytE_in xs xs.length (Nat.le_refl _)
  rw [List.take_length] at hV'
  rw [List.drop_length] at hL'
  have HK := Lib.hid hk
  have HE := Lib.hid (And.intro hE (And.intro hV hL))
  have HE' := Lib.hid (And.intro hE' (And.intro hV' hL'))
  have HR := Lib.hid hr
  have HL := Lib.hid hl
  have htk : (xs.take k).length = k := by simp; omega
  have hdk : ((xs.drop k).length : Int) = (xs.length : Int) - (k : Int) := by simp; omega
  have HT := Lib.hid (And.intro htk hdk)
  have hk2 : (k : Int) ≤ (xs.length : Int) := by omega
  have hk3 : (0 : Int) ≤ (k : Int) := by omega
  clear hr wn hk hE hV hL hE' hV' hL' htk hdk
  obtain ⟨l8, hl8⟩ : ∃ l, l = putL [] n 8 := ⟨_, rfl⟩
  have hl8' : l8.length ≤ 8 := by rw [hl8]; exact putL8_len n
  have H8 := Lib.hid hl8
  have H8' := Lib.hid hl8'
  clear hl8 hl8'
  go_enter Try.func9, Try.ntmps9
  go_wp2_with fail
  refine (works_any W).mono ?_
  rintro e w1 ⟨rfl, hb1⟩
  have lw1 := Lib.hid hb1.size
  have RB1 := Lib.hid (HR.out.below hb1 (fun _ h => h))
  have HB1 := Lib.hid hb1
  clear hb1
  go_wp2_with fail
  refine (rnew_any _ A c xs _ RB1.out (fun i hi => Nat.lt_of_lt_of_le hi lw1.out) (by have := HL.out; omega)).mono ?_
  rintro e w2 ⟨r, S1, rfl, HR1, hb2, hS1⟩
  have hS1' : ∀ i, S1 i → w1.heap.size ≤ i ∧ i < w2.heap.size := fun i hi => ⟨hS1 i hi, by obtain ⟨_, _, _, _, h⟩ := HR1; exact h.1 i hi⟩
  have HS1 := Lib.hid hS1'
  have RB2 := Lib.hid (RB1.out.below hb2 (fun i hi => Nat.lt_of_lt_of_le hi lw1.out))
  have lw2 := Lib.hid hb2.size
  have HB2 := Lib.hid (Bt HB1.out hb2)
  replace HR1 := Lib.hid HR1
  clear hb2 hS1 hS1'
  go_wp2_with fail
  refine (rnew_any _ A c xs _ RB2.out (fun i hi => Nat.lt_of_lt_of_le hi (Nat.le_trans lw1.out lw2.out)) (by have := HL.out; omega)).mono ?_
  rintro e w3 ⟨s, S2, rfl, HR2, hb3, hS2⟩
  have hS2' : ∀ i, S2 i → w2.heap.size ≤ i ∧ i < w3.heap.size := fun i hi => ⟨hS2 i hi, by obtain ⟨_, _, _, _, h⟩ := HR2; exact h.1 i hi⟩
  have HS2 := Lib.hid hS2'
  have RB3 := Lib.hid (RB2.out.below hb3 (fun i hi => Nat.lt_of_lt_of_le hi (Nat.le_trans lw1.out lw2.out)))
  have HR13 := Lib.hid (HR1.out.below hb3)
  have lw3 := Lib.hid hb3.size
  have HB3 := Lib.hid (Bt HB2.out hb3)
  replace HR2 := Lib.hid HR2
  clear hb3 hS2 hS2'
  go_wp2_with fail
  refine (bring_any far ((xs.length : Int) + 1) _ (by have := HL.out; omega)).mono ?_
  rintro e w' ⟨rfl, rfl⟩
  rw [HK.out]
  go_wp2_with fail
  refine (rbytes_any S1 r xs k _ HR13.out).mono ?_
  rintro e w4 ⟨A4, c4, rfl, ho4, hm4, HR4⟩
  rw [HE.out.1]
  rw [HE.out.2.1] at ho4 ⊢
  rw [HE.out.2.2] at HR4
  have RX4 := Lib.hid (Rd.own ho4)
  have RB4 := Lib.hid (RB3.out.kept hm4 (fun i hi hs => by have := (HS1.out i hs).1; have := lw1.out; omega))
  have HR24 := Lib.hid (HR2.out.kept hm4 (fun i hi hs => by have := (HS1.out i hs).2; have := (HS2.out i hi).1; omega))
  have lw4 := Lib.hid hm4.size
  have HB4 := Lib.hid (Bm HB3.out hm4 (fun i hi => Nat.le_trans lw1.out (HS1.out i hi).1))
  replace HR4 := Lib.hid HR4
  clear ho4 hm4
  go_wp2_with fail
  refine (write_any _).mono ?_
  rintro e w5 ⟨rfl, HW5, hb5⟩
  have RX5 := Lib.hid (RX4.out.below hb5 (fun i hi => hi.2))
  have RB5 := Lib.hid (RB4.out.below hb5 (fun i hi => Nat.lt_of_lt_of_le hi HB4.out.size))
  have HR5 := Lib.hid (HR4.out.below hb5)
  have HR25 := Lib.hid (HR24.out.below hb5)
  have lw5 := Lib.hid hb5.size
  have HS5 := Lib.hid HW5.1
  have HB5 := Lib.hid (Bt HB4.out hb5)
  replace HW5 := Lib.hid HW5
  clear hb5
  go_wp2_with fail
  refine (write_any _).mono ?_
  rintro e w6 ⟨rfl, HW6, hb6⟩
  have RX6 := Lib.hid (RX5.out.below hb6 (fun i hi => Nat.lt_of_lt_of_le hi.2 lw5.out))
  have RB6 := Lib.hid (RB5.out.below hb6 (fun i hi => Nat.lt_of_lt_of_le hi HB5.out.size))
  have HR6 := Lib.hid (HR5.out.below hb6)
  have HR26 := Lib.hid (HR25.out.below hb6)
  have HV6 := Lib.hid (HW5.out.below hb6)
  have lw6 := Lib.hid hb6.size
  have HS6 := Lib.hid HW6.1
  have HB6 := Lib.hid (Bt HB5.out hb6)
  replace HW6 := Lib.hid HW6
  clear hb6
  go_wp2_with fail
  refine (put_any _ _ _ n 8 _ HV6.out hw1 (by simp)).mono ?_
  rintro e w7 ⟨rfl, S5, hm7, HV7, hs7⟩
  rw [← H8.out] at HV7
  have lw7 := Lib.hid hm7.size
  have lt5 : ∀ i, (i = w4.heap.size ∨ i = w4.heap.size + 1) → w4.heap.size ≤ i ∧ i < w5.heap.size := fun i hi => ⟨by omega, HS5.out i hi⟩
  have LT5 := Lib.hid lt5
  have RX7 := Lib.hid (RX6.out.kept hm7 (fun i hi hs => by have := (LT5.out i hs).1; have := hi.2; omega))
  have RB7 := Lib.hid (RB6.out.kept hm7 (fun i hi hs => by have := (LT5.out i hs).1; have := HB4.out.size; omega))
  have HR7 := Lib.hid (HR6.out.kept hm7 (fun i hi hs => by have := (LT5.out i hs).1; have := (HS1.out i hi).2; have := lw3.out; have := lw4.out; omega))
  have HR27 := Lib.hid (HR26.out.kept hm7 (fun i hi hs => by have := (LT5.out i hs).1; have := (HS2.out i hi).2; have := lw4.out; omega))
  have HW7 := Lib.hid (HW6.out.kept hm7 (fun i hi hs => by have := (LT5.out i hs).2; omega))
  have HB7 := Lib.hid (Bm HB6.out hm7 (fun i hi => by have := (LT5.out i hi).1; have := HB4.out.size; omega))
  have HS7 := Lib.hid hs7
  have HV7' := Lib.hid HV7
  clear hm7 hs7 HV7 lt5
  go_wp2_with fail
  refine (wbytes_any _ _ _ _ xs A c _ HW7.out RB7.out (fun i hi => Nat.lt_of_lt_of_le hi HB7.out.size) (by have := HL.out; simp; omega)).mono ?_
  rintro e w8 ⟨rfl, S6, hm8, HW8, hs8⟩
  rw [List.nil_append] at HW8
  have lw8 := Lib.hid hm8.size
  have lt6 : ∀ i, (i = w5.heap.size ∨ i = w5.heap.size + 1) → w5.heap.size ≤ i ∧ i < w6.heap.size := fun i hi => ⟨by omega, HS6.out i hi⟩
  have LT6 := Lib.hid lt6
  have RX8 := Lib.hid (RX7.out.kept hm8 (fun i hi hs => by have := (LT6.out i hs).1; have := hi.2; have := lw5.out; omega))
  have RB8 := Lib.hid (RB7.out.kept hm8 (fun i hi hs => by have := (LT6.out i hs).1; have := HB5.out.size; omega))
  have HR8 := Lib.hid (HR7.out.kept hm8 (fun i hi hs => by have := (LT6.out i hs).1; have := (HS1.out i hi).2; have := lw3.out; have := lw4.out; have := lw5.out; omega))
  have HR28 := Lib.hid (HR27.out.kept hm8 (fun i hi hs => by have := (LT6.out i hs).1; have := (HS2.out i hi).2; have := lw4.out; have := lw5.out; omega))
  have HV8 := Lib.hid (HV7'.out.kept hm8 (fun i hi hs => by have := LT6.out i hs; rcases HS7.out i hi with h | h; (have := (LT5.out i h).2; omega); omega))
  have HB8 := Lib.hid (Bm HB7.out hm8 (fun i hi => by have := (LT6.out i hi).1; have := HB5.out.size; omega))
  have HS8 := Lib.hid hs8
  have HW8' := Lib.hid HW8
  clear hm8 hs8 HW8 lt6
  go_wp2_with fail
  refine (rbytes_any S2 s xs xs.length _ HR28.out).mono ?_
  rintro e w9 ⟨A9, c9, rfl, ho9, hm9, HR9⟩
  rw [HE'.out.1]
  rw [HE'.out.2.1] at ho9 ⊢
  rw [HE'.out.2.2] at HR9
  have RY9 := Lib.hid (Rd.own ho9)
  have RX9 := Lib.hid (RX8.out.kept hm9 (fun i hi hs => by have := (HS2.out i hs).2; have := hi.1; omega))
  have RB9 := Lib.hid (RB8.out.kept hm9 (fun i hi hs => by have := (HS2.out i hs).1; have := HB2.out.size; omega))
  have HR19 := Lib.hid (HR8.out.kept hm9 (fun i hi hs => by have := (HS2.out i hs).1; have := (HS1.out i hi).2; omega))
  have HV9 := Lib.hid (HV8.out.kept hm9 (fun i hi hs => by have := (HS2.out i hs).2; have := lw4.out; have := lw5.out; have := lw6.out; rcases HS7.out i hi with h | h; (have := (LT5.out i h).1; omega); omega))
  have HW9 := Lib.hid (HW8'.out.kept hm9 (fun i hi hs => by have := (HS2.out i hs).2; have := lw4.out; have := lw5.out; have := lw6.out; have := lw7.out; rcases HS8.out i hi with h | h; (have := (LT6.out i h).1; omega); omega))
  have HB9 := Lib.hid (Bm HB8.out hm9 (fun i hi => by have := (HS2.out i hi).1; have := HB2.out.size; omega))
  have HR29 := Lib.hid HR9
  have lw49 := Lib.hid (show w4.heap.size ≤ w9.heap.size by have := hm9.size; have := lw5.out; have := lw6.out; have := lw7.out; have := lw8.out; omega)
  clear ho9 hm9 HR9 HR1 HR2 HR13 HR24 HR4 HR5 HR25 HR6 HR26 HV6 HW5 HW6 HR7 HR27 HW7 HV7' HR8 HR28 HV8 HW8' RB1 RB2 RB3 RB4 RB5 RB6 RB7 RB8 RX4 RX5 RX6 RX7 RX8
  go_wp2_with fail
  refine (eq_bytes (fun i => w3.heap.size ≤ i ∧ i < w4.heap.size) (fun i => i < W.heap.size) _ _ (xs.take k) (xs.take k) _ (by have h := RX9.out; rw [HT.out.1] at h; rw [HT.out.1]; exact h) (by have h := rd_head (xs.take k) (xs.drop k) (by rw [List.take_append_drop]; exact RB9.out); rw [HT.out.1] at h; rw [HT.out.1]; exact h)).mono ?_
  rintro e w10 ⟨rfl, n10, hw10⟩
  rw [eqB_self]
  have hb10 : Below w9.heap.size w9 w10 := by rw [hw10]; exact BdN (B0 _) n10
  have RY10 := Lib.hid (RY9.out.below hb10 (fun i hi => hi.2))
  have RB10 := Lib.hid (RB9.out.below hb10 (fun i hi => Nat.lt_of_lt_of_le hi HB9.out.size))
  have HR110 := Lib.hid (HR19.out.below hb10)
  have HR210 := Lib.hid (HR29.out.below hb10)
  have HV10 := Lib.hid (HV9.out.below hb10)
  have HW10 := Lib.hid (HW9.out.below hb10)
  have HB10 := Lib.hid (Bt HB9.out hb10)
  have lw10 := Lib.hid hb10.size
  clear hw10 hb10 RX9 RY9 RB9 HR19 HR29 HV9 HW9
  go_wp2_with fail
  refine (eq_bytes _ _ _ _ xs xs _ RY10.out RB10.out).mono ?_
  rintro e w11 ⟨rfl, n11, hw11⟩
  rw [eqB_self]
  have hb11 : Below w10.heap.size w10 w11 := by rw [hw11]; exact BdN (B0 _) n11
  have RB11 := Lib.hid (RB10.out.below hb11 (fun i hi => Nat.lt_of_lt_of_le hi HB10.out.size))
  have HR111 := Lib.hid (HR110.out.below hb11)
  have HR211 := Lib.hid (HR210.out.below hb11)
  have HV11 := Lib.hid (HV10.out.below hb11)
  have HW11 := Lib.hid (HW10.out.below hb11)
  have HB11 := Lib.hid (Bt HB10.out hb11)
  clear hw11 hb11 RY10 RB10 HR110 HR210 HV10 HW10
  go_wp2_with fail
  refine (left_any S1 r _ _ HR111.out).mono ?_
  rintro e w12 ⟨rfl, n12, hw12⟩
  rw [HT.out.2]
  have hb12 : Below w11.heap.size w11 w12 := by rw [hw12]; exact BdN (B0 _) n12
  have RB12 := Lib.hid (RB11.out.below hb12 (fun i hi => Nat.lt_of_lt_of_le hi HB11.out.size))
  have HR212 := Lib.hid (HR211.out.below hb12)
  have HV12 := Lib.hid (HV11.out.below hb12)
  have HW12 := Lib.hid (HW11.out.below hb12)
  have HB12 := Lib.hid (Bt HB11.out hb12)
  clear hw12 hb12 RB11 HR111 HR211 HV11 HW11
  have hsub : ((xs.length : Int) - (k : Int) == (xs.length : Int) - (k : Int)) = true := by simp
  go_wp2_with fail
  refine (left_any S2 s _ _ HR212.out).mono ?_
  rintro e w13 ⟨rfl, n13, hw13⟩
  have hb13 : Below w12.heap.size w12 w13 := by rw [hw13]; exact BdN (B0 _) n13
  have RB13 := Lib.hid (RB12.out.below hb13 (fun i hi => Nat.lt_of_lt_of_le hi HB12.out.size))
  have HV13 := Lib.hid (HV12.out.below hb13)
  have HW13 := Lib.hid (HW12.out.below hb13)
  have HB13 := Lib.hid (Bt HB12.out hb13)
  clear hw13 hb13 RB12 HR212 HV12 HW12
  go_wp2_with fail
  refine (out_any _ _ _ _ HW13.out (by have := HL.out; omega)).mono ?_
  rintro e w14 ⟨A14, c14, rfl, HF14⟩
  have hb14 := HF14.kept
  have RB14 := Lib.hid (RB13.out.below hb14 (fun i hi => Nat.lt_of_lt_of_le hi HB13.out.size))
  have HV14 := Lib.hid (HV13.out.below hb14)
  have HB14 := Lib.hid (Bt HB13.out hb14)
  replace HF14 := Lib.hid HF14
  clear hb14 RB13 HV13 HW13
  go_wp2_with fail
  refine (eq_bytes _ _ _ _ xs xs _ HF14.out.rd RB14.out).mono ?_
  rintro e w15 ⟨rfl, n15, hw15⟩
  rw [eqB_self]
  have hb15 : Below w14.heap.size w14 w15 := by rw [hw15]; exact BdN (B0 _) n15
  have HV15 := Lib.hid (HV14.out.below hb15)
  have HB15 := Lib.hid (Bt HB14.out hb15)
  clear hw15 hb15 RB14 HV14 HF14
  go_wp2_with fail
  refine (out_any _ _ _ _ HV15.out (by have := H8'.out; omega)).mono ?_
  rintro e w16 ⟨A16, c16, rfl, HF16⟩
  have HB16 := Lib.hid (Bt HB15.out HF16.kept)
  replace HF16 := Lib.hid HF16
  clear HV15
  go_wp2_with fail
  refine (sput_any n 8 hw1 _).mono ?_
  rintro e w17 ⟨A17, c17, rfl, HF17⟩
  rw [← H8.out] at HF17 ⊢
  have RV17 := Lib.hid (HF16.out.rd.below HF17.kept (fun i hi => hi))
  have HB17 := Lib.hid (Bt HB16.out HF17.kept)
  replace HF17 := Lib.hid HF17
  clear HF16
  go_wp2_with fail
  refine (eq_bytes _ _ _ _ l8 l8 _ RV17.out HF17.out.rd).mono ?_
  rintro e w18 ⟨rfl, n18, rfl⟩
  rw [eqB_self]
  go_wp2_with fail
  go_ret
  exact ⟨rfl, BdN HB17.out n18⟩

theorem wireTwo_walk {H : Type} {enc : TypeId × Value → H} (W : World) {base : Nat} {sp : Nat → Bool} {held : Bool} {v : Value} {d : DataW H} {p : List MemPlace} (hv : Value.okWide Try.prog W .any base 27 v) (ht : DataW.Trod enc Try.prog W 0 sp held 27 v d p) (hz : ∀ n ∈ d.weights Try.prog 27, n ≤ reachBytes)
    (far : Int) (wf : (Lit.int .i64 far).wf = true) (n : Int) (wn : (Lit.int .i64 n).wf = true) : Calls Try.prog 9 #[v, .int .i64 far, .int .i64 n] W fun e w' => e = .returned (.bool true) ∧ Below W.heap.size W w' := by
  obtain ⟨A, c, xs, rfl, hb, hl, hr⟩ := open_bytes hv ht hz
  exact two_walk1 W A c xs far n wn hb hl hr
end Go.Proofs.Ytodijebpoipeiaa
