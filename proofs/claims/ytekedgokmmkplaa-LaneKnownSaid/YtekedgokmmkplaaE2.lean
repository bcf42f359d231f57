/- The statement LaneKnown: its walk. -/
import Derived.Test.YtekedgokmmkplaaE1
namespace Go.Proofs.Ytekedgokmmkplaa
open Go.RowKit
set_option maxRecDepth 20000
set_option linter.unusedVariables false
set_option linter.unusedSimpArgs false

def badN : List Int := [0, 6, 10, 14, 20, 29, -1, 4611686018427387904]
theorem bad_adr (k : Nat) (hk : k < 8) : ∃ v : Int, badN[k]? = some v ∧ adr v = false ∧ -1 ≤ v ∧ v ≤ 4611686018427387904 := by
  obtain rfl | rfl | rfl | rfl | rfl | rfl | rfl | rfl : k = 0 ∨ k = 1 ∨ k = 2 ∨ k = 3 ∨ k = 4 ∨ k = 5 ∨ k = 6 ∨ k = 7 := by omega
  all_goals exact ⟨_, rfl, by decide, by decide, by decide⟩
def icells (l : List Int) : List Value := l.map fun x => .int .i64 x
theorem put_bad1 (ds : List Dg) (v : Int) (h : adr v = false) : putE ds v 1 = 2 ∧ putL ds v 1 [] = ds := by
  have e : putE ds v 1 = 2 := by simp [putE, h]
  exact ⟨e, by simp [putL, e]⟩
theorem put_bad2 (ds : List Dg) (v : Int) (h : adr v = false) : putE ds 1 v = 2 ∧ putL ds 1 v [] = ds := by
  have e : putE ds 1 v = 2 := by simp [putE, h]
  exact ⟨e, by simp [putL, e]⟩
def kn (k : Nat) : List Dg := ⟨1, 2, []⟩ :: List.replicate k ⟨1, 2, [1]⟩
theorem kn_length (k : Nat) : (kn k).length = k + 1 := by simp [kn]
theorem kn_put (k : Nat) (h : k < 4095) : putE (kn k) 1 2 = 0 ∧ putL (kn k) 1 2 [1] = kn (k + 1) := by
  have e : putE (kn k) 1 2 = 0 := by
    unfold putE
    rw [if_pos (by decide), kn_length, if_neg (by omega)]
  refine ⟨e, ?_⟩
  unfold putL
  rw [e, if_pos rfl]
  simp [kn, List.replicate_succ']
theorem kn_full : putE (kn 4095) 1 2 = 7 ∧ putL (kn 4095) 1 2 [1] = kn 4095 := by
  have e : putE (kn 4095) 1 2 = 7 := by
    unfold putE
    rw [if_pos (by decide), kn_length, if_pos rfl]
  exact ⟨e, by unfold putL; rw [e, if_neg (by decide)]⟩
theorem kn_see0 (k : Nat) : inR (kn k).length 0 = true ∧ seeD (kn k) 0 = ⟨1, 2, []⟩ := by
  have h : inR (kn k).length 0 = true := by rw [kn_length]; simp [inR]
  refine ⟨h, ?_⟩
  unfold seeD
  rw [h, if_pos rfl]
  rfl
theorem kn_dblfull : dblE (kn 4095) 0 = 7 ∧ dblL (kn 4095) 0 = kn 4095 := by
  obtain ⟨h1, h2⟩ := kn_see0 4095
  have e : putE (kn 4095) 1 2 = 7 := kn_full.1
  constructor
  · unfold dblE; rw [h1, if_pos rfl, h2]; exact e
  · unfold dblL putL; rw [h1, if_pos rfl, h2, e, if_neg (by decide)]
theorem kn_dblout : dblE (kn 4095) 4096 = 9 ∧ dblL (kn 4095) 4096 = kn 4095 := by
  have h : inR (kn 4095).length 4096 = false := by rw [kn_length]; rfl
  constructor
  · unfold dblE; rw [h, if_neg (by decide)]
  · unfold dblL; rw [h, if_neg (by decide)]
theorem kn_put00 : putE (kn 4095) 0 0 = 2 ∧ putL (kn 4095) 0 0 [] = kn 4095 := by
  have e : putE (kn 4095) 0 0 = 2 := by unfold putE; rw [if_neg (by decide)]
  exact ⟨e, by unfold putL; rw [e, if_neg (by decide)]⟩
theorem kn_takes : takesF (kn 4095) 4095 1 2 [1] = true ∧ takL (kn 4095) 4095 = kn 4094 := by
  have h : inR (kn 4095).length 4095 = true := by rw [kn_length]; rfl
  have hd : seeD (kn 4095) 4095 = ⟨1, 2, [1]⟩ := by
    unfold seeD
    rw [h, if_pos rfl, show (4095 : Int).toNat = 4094 + 1 from rfl]
    unfold kn
    rw [List.getD_cons_succ, List.getD_eq_getElem?_getD, List.getElem?_replicate, if_pos (by omega)]
    rfl
  have he : seeE (kn 4095) 4095 = 0 := by unfold seeE; rw [h, if_pos rfl]
  constructor
  · unfold takesF; rw [he, if_pos rfl, hd]; rfl
  · unfold takL
    rw [h, if_pos rfl, show (4095 : Int).toNat = 4094 + 1 from rfl]
    unfold kn
    rw [List.eraseIdx_cons_succ, List.eraseIdx_replicate, if_pos (by omega)]
theorem kn_dbl : dblE (kn 4094) 0 = 0 ∧ (dblL (kn 4094) 0).length = 4096 := by
  obtain ⟨h1, h2⟩ := kn_see0 4094
  have e : putE (kn 4094) 1 2 = 0 := (kn_put 4094 (by omega)).1
  constructor
  · unfold dblE; rw [h1, if_pos rfl, h2]; exact e
  · unfold dblL putL; rw [h1, if_pos rfl, h2, e, if_pos rfl, List.length_append, kn_length]; rfl
def lenOfW (w : World) (p : Nat) : Nat := match w.cell? ⟨p, 1, none⟩ with
  | some (.slice _ n _) => n
  | _ => 0
theorem len_of {B : Nat} {K : Nat → Prop} {w : World} {p : Nat} {ds : List Dg} {sd : Int} (h : LaneIn B K w p ds sd) : lenOfW w p = ds.length := by
  obtain ⟨_, _, _, _, _, S, _, _, _, _, l, sl, T, h3, h4, h5, _⟩ := h
  obtain ⟨A, c, rfl⟩ := own_slice h5
  have hc : w.cell? ⟨p, 1, none⟩ = some (.slice A l.length c) := h4.cell 1
  unfold lenOfW
  rw [hc, ← h3]
  simp
theorem c_neg1 : cutE (-1) = 9 := by decide
theorem c_neg2 : cutE (-9223372036854775808) = 9 := by decide
theorem c_max : cutE 9223372036854775807 = 0 := by decide
theorem c_one : cutE 1 = 0 := by decide
theorem s_neg1 (sd : Int) : cutS sd (-1) = sd := by unfold cutS; rw [if_pos (by omega)]
theorem s_neg2 (sd : Int) : cutS sd (-9223372036854775808) = sd := by unfold cutS; rw [if_pos (by omega)]
theorem s_max (sd : Int) : cutS sd 9223372036854775807 = 9223372036854775807 := by unfold cutS; rw [if_neg (by omega)]
theorem s_one (sd : Int) : cutS sd 1 = 1 := by unfold cutS; rw [if_neg (by omega)]
theorem r_max : reachF 9223372036854775807 1 28 = true := by kernel_rfl
theorem r_one : reachF 1 1 28 = true := by kernel_rfl
theorem p_one : putE [] 1 2 = 0 ∧ putL [] 1 2 [] = kn 0 := ⟨by kernel_rfl, by kernel_rfl⟩
theorem p_55 : putE (kn 0) 5 5 = 2 ∧ putL (kn 0) 5 5 [] = kn 0 := ⟨by kernel_rfl, by kernel_rfl⟩
theorem d_1 : dblE (kn 0) 1 = 9 ∧ dblL (kn 0) 1 = kn 0 := ⟨by kernel_rfl, by kernel_rfl⟩
theorem d_neg : dblE (kn 0) (-1) = 9 ∧ dblL (kn 0) (-1) = kn 0 := ⟨by kernel_rfl, by kernel_rfl⟩
theorem t_0 : seeD [] 0 = ⟨0, 0, []⟩ ∧ seeE [] 0 = 9 ∧ takL [] 0 = [] := ⟨by kernel_rfl, by kernel_rfl, by kernel_rfl⟩
theorem t_neg : seeD [] (-1) = ⟨0, 0, []⟩ ∧ seeE [] (-1) = 9 ∧ takL [] (-1) = [] := ⟨by kernel_rfl, by kernel_rfl, by kernel_rfl⟩

theorem run_zero59 (w : World) : (zeroValue 59).run Try.prog w = .ok (.agg #[.bool false, .slice none 0 0, .int .i64 0]) w := by kernel_rfl
set_option maxHeartbeats 8000000 in
theorem laneKnown_walk (W : World) : Calls Try.prog 11 #[] W fun e w' => e = .returned (.bool true) ∧ Below W.heap.size W w' := by
  have hz30 := run_zero30
  have hz59 := run_zero59
  go_enter Try.func11, Try.ntmps11
  go_wp2_with fail
  refine (new_in (fun _ => False) W (fun i h => h.elim) W.heap.size (Nat.le_refl _)).mono ?_
  rintro e w1 ⟨rfl, HL1, hb1⟩
  obtain ⟨p, hp⟩ : ∃ p, p = W.heap.size := ⟨_, rfl⟩
  rw [← hp] at HL1 ⊢
  have lpW : W.heap.size ≤ p := by omega
  have HLL := Lib.hid (HL1.keep (L := fun j => j = w1.heap.size) (Ba (B0 w1) (.cells (icells badN).toArray 3)) (fun j hj => .inl (by simp; omega)))
  have HWW := Lib.hid (Ba hb1 (.cells (icells badN).toArray 3))
  have HBX := Lib.hid (Blk.new w1 3 (icells badN).toArray)
  clear HL1 hb1 hp
  go_wp2_with fail
  go_loopw [21] (fun i wr => ∃ k : Nat, k ≤ 8 ∧ i = .int .i64 k ∧ LaneIn p (fun j => j = w1.heap.size) wr p [] 0 ∧ Blk wr w1.heap.size 3 (icells badN).toArray ∧ Below W.heap.size W wr) (fun i _ => 8 - (intOf i).toNat)
  case atStart => exact ⟨0, Nat.zero_le _, rfl, HLL.out, HBX.out, HWW.out⟩
  case round =>
    obtain ⟨k, hk, rfl, HLk, HBk, HWk⟩ := hrel
    by_cases hlt : k < 8
    · obtain ⟨v, hv, hav, hv0, hv1⟩ := bad_adr k hlt
      have d0 : wr.cell? ⟨w1.heap.size, k, none⟩ = some (.int .i64 v) := (HBk.cell k).trans (by simp [icells, hv])
      have hlt' : (k : Int) < 8 := by omega
      have hk0 : (0 : Int) ≤ (k : Int) := by omega
      have HAV := Lib.hid hav
      have HLK := Lib.hid HLk
      have HBK := Lib.hid HBk
      have HWK := Lib.hid HWk
      clear hv hav HLk HBk HWk
      go_wp2_with fail
      refine (put_in v 1 none 0 [] _ HLK.out (Rd.nil _ (fun _ => False) 1) (fun j hj => hj.elim) (by simp)).mono ?_
      rintro e w3 ⟨rfl, HL3, hm3⟩
      rw [(put_bad1 [] v HAV.out).1]
      rw [(put_bad1 [] v HAV.out).2] at HL3
      have HW3 := Bm HWK.out hm3 (fun i h => by have := h.1; omega)
      have HB3 := HBK.out.kept hm3 (fun h => h.2 rfl)
      clear hm3
      go_wp2_with fail
      refine (put_in 1 v none 0 [] _ HL3 (Rd.nil _ (fun _ => False) 1) (fun j hj => hj.elim) (by simp)).mono ?_
      rintro e w4 ⟨rfl, HL4, hm4⟩
      rw [(put_bad2 [] v HAV.out).1]
      rw [(put_bad2 [] v HAV.out).2] at HL4
      have HW4 := Bm HW3 hm4 (fun i h => by have := h.1; omega)
      have HB4 := HB3.kept hm4 (fun h => h.2 rfl)
      clear hm4 HL3 HW3 HB3
      go_wp2_with fail
      refine (reaches_in v v _ HL4).mono ?_
      rintro e w' ⟨rfl, n1, rfl⟩
      rw [show reachF 0 v v = false from by simp [reachF, HAV.out]]
      replace HL4 := HL4.below (BdN (B0 w4) n1)
      go_wp2_with fail
      refine (reaches_in v 1 _ HL4).mono ?_
      rintro e w' ⟨rfl, n2, rfl⟩
      rw [show reachF 0 v 1 = false from by simp [reachF, HAV.out]]
      replace HL4 := HL4.below (BdN (B0 _) n2)
      rw [World.drewN_drewN] at HL4
      go_wp2_with fail
      go_roundw
      case rel => exact ⟨k + 1, by omega, by go_num, HL4, HB4.drewN _, BdN HW4 _⟩
      case measure => simp [intOf]; omega
    · obtain rfl : k = 8 := by omega
      have HLx := HLk.keep (L := fun _ => False) (B0 wr) (fun j hj => hj.elim)
      have HWx := Lib.hid HWk
      clear HLk HBk HWk hk hlt HLL HWW HBX
      go_wp2_with fail
      refine (take_in 0 _ HLx).mono ?_
      rintro e w3 ⟨A3, c3, rfl, _, HL3, hm3⟩
      rw [t_0.1, t_0.2.1]
      rw [t_0.2.2] at HL3
      have HW3 := Lib.hid (Bm HWx.out hm3 (fun i h => by have := h.1; omega))
      clear hm3 HLx HWx
      go_wp2_with fail
      refine (see_in_ 0 _ (HL3.below (Ba (B0 w3) _))).mono ?_
      rintro e w4 ⟨A4, c4, rfl, HF4⟩
      rw [t_0.1, t_0.2.1]
      have hb4 := Bt (Ba (B0 w3) _) HF4.kept
      have HL4 := HL3.below hb4
      have HW4 := Lib.hid (Bt HW3.out hb4)
      clear hb4 HF4 HL3 HW3
      go_wp2_with fail
      refine (take_in (-1) _ (HL4.below (Ba (B0 w4) _))).mono ?_
      rintro e w5 ⟨A5, c5, rfl, _, HL5, hm5⟩
      rw [t_neg.1, t_neg.2.1]
      rw [t_neg.2.2] at HL5
      have HW5 := Lib.hid (Bm (Ba HW4.out _) hm5 (fun i h => by have := h.1; omega))
      clear hm5 HL4 HW4
      go_wp2_with fail
      refine (one_any none 0 0 _).mono ?_
      rintro e w6 ⟨rfl, hb6⟩
      have hb6' := Bt (Ba (B0 w5) _) hb6
      have HL6 := HL5.below hb6'
      have HW6 := Lib.hid (Bt HW5.out hb6')
      clear hb6 hb6' HL5 HW5
      go_wp2_with fail
      refine (put_in 1 2 none 0 [] _ HL6 (Rd.nil _ (fun _ => False) 1) (fun j hj => hj.elim) (by simp)).mono ?_
      rintro e w7 ⟨rfl, HL7, hm7⟩
      rw [p_one.1]
      rw [p_one.2] at HL7
      have HW7 := Lib.hid (Bm HW6.out hm7 (fun i h => by have := h.1; omega))
      clear hm7 HL6 HW6
      go_wp2_with fail
      refine (put_in 5 5 none 0 [] _ HL7 (Rd.nil _ (fun _ => False) 1) (fun j hj => hj.elim) (by simp)).mono ?_
      rintro e w8 ⟨rfl, HL8, hm8⟩
      rw [p_55.1]
      rw [p_55.2] at HL8
      have HW8 := Lib.hid (Bm HW7.out hm8 (fun i h => by have := h.1; omega))
      clear hm8 HL7 HW7
      go_wp2_with fail
      refine (double_in 1 _ HL8).mono ?_
      rintro e w9 ⟨rfl, HL9, hm9⟩
      rw [d_1.1]
      rw [d_1.2] at HL9
      have HW9 := Lib.hid (Bm HW8.out hm9 (fun i h => by have := h.1; omega))
      clear hm9 HL8 HW8
      go_wp2_with fail
      refine (double_in (-1) _ HL9).mono ?_
      rintro e w10 ⟨rfl, HL10, hm10⟩
      rw [d_neg.1]
      rw [d_neg.2] at HL10
      have HW10 := Lib.hid (Bm HW9.out hm10 (fun i h => by have := h.1; omega))
      clear hm10 HL9 HW9
      go_wp2_with fail
      refine (cut_in (-1) (by omega) _ HL10).mono ?_
      rintro e w11 ⟨rfl, HL11, hm11⟩
      rw [c_neg1]
      rw [s_neg1] at HL11
      have HW11 := Lib.hid (Bm HW10.out hm11 (fun i h => by have := h.1; omega))
      clear hm11 HL10 HW10
      go_wp2_with fail
      refine (cut_in (-9223372036854775808) (by omega) _ HL11).mono ?_
      rintro e w12 ⟨rfl, HL12, hm12⟩
      rw [c_neg2]
      rw [s_neg2] at HL12
      have HW12 := Lib.hid (Bm HW11.out hm12 (fun i h => by have := h.1; omega))
      clear hm12 HL11 HW11
      go_wp2_with fail
      refine (cut_in 9223372036854775807 (by omega) _ HL12).mono ?_
      rintro e w13 ⟨rfl, HL13, hm13⟩
      rw [c_max]
      rw [s_max] at HL13
      have HW13 := Lib.hid (Bm HW12.out hm13 (fun i h => by have := h.1; omega))
      clear hm13 HL12 HW12
      go_wp2_with fail
      refine (reaches_in 1 28 _ HL13).mono ?_
      rintro e w' ⟨rfl, m14, rfl⟩
      rw [r_max]
      have HL14 := HL13.below (BdN (B0 _) m14)
      have HW14 := Lib.hid (BdN HW13.out m14)
      clear HL13 HW13
      try rw [World.drewN_drewN] at HL14
      generalize hw14 : World.drewN _ m14 = w14 at HL14 HW14 ⊢
      clear hw14
      go_wp2_with fail
      refine (cut_in 1 (by omega) _ HL14).mono ?_
      rintro e w15 ⟨rfl, HL15, hm15⟩
      rw [c_one]
      rw [s_one] at HL15
      have HW15 := Lib.hid (Bm HW14.out hm15 (fun i h => by have := h.1; omega))
      clear hm15 HL14 HW14
      go_wp2_with fail
      refine (reaches_in 1 28 _ HL15).mono ?_
      rintro e w' ⟨rfl, m16, rfl⟩
      rw [r_one]
      have HL16 := HL15.below (BdN (B0 _) m16)
      have HW16 := Lib.hid (BdN HW15.out m16)
      clear HL15 HW15
      try rw [World.drewN_drewN] at HL16
      generalize hw16 : World.drewN _ m16 = w16 at HL16 HW16 ⊢
      clear hw16
      go_wp2_with fail
      go_loopw [113] (fun e wr => ∃ k : Nat, k ≤ 4095 ∧ LaneIn p (fun _ => False) wr p (kn k) 1 ∧ Below W.heap.size W wr) (fun _ wr => 4097 - lenOfW wr p)
      case atStart => exact ⟨0, by omega, HL16, HW16.out⟩
      case round =>
        obtain ⟨k, hk, HLk, HWk⟩ := hrel
        have hlen := len_of HLk
        rw [kn_length] at hlen
        have HLN := Lib.hid hlen
        clear hlen
        have HLK := Lib.hid HLk
        have HWK := Lib.hid HWk
        clear HLk HWk
        by_cases hlt : k < 4095
        · have hlt' : ((k + 1 : Nat) : Int) < 4096 := by omega
          have hlt2 : (k : Int) + 1 < 4096 := by omega
          go_wp2_with fail
          refine (len_in _ HLK.out).mono ?_
          rintro e w' ⟨rfl, rfl⟩
          rw [kn_length]
          go_wp2_with fail
          refine (one_any _ 1 1 _).mono ?_
          rintro e wq ⟨rfl, hbo⟩
          have hbr := Bt (Ba (B0 wr) (.cells #[.int .u8 1] 5)) hbo
          have hb7 := (Blk.new wr 5 (bts [1]).toArray).later hbo
          have lr : wr.heap.size < wq.heap.size := Nat.lt_of_lt_of_le (by simp) hbo.size
          have HLq := HLK.out.below hbr
          clear hbo
          go_wp2_with fail
          refine (put_in 1 2 _ 1 [1] _ HLq (rd_lit _ _ [1] 5 hb7 (by simp [maxLen])) (fun j hj => by omega) (by simp)).mono ?_
          rintro e wz ⟨rfl, HLz, hmz⟩
          rw [(kn_put k hlt).1]
          rw [(kn_put k hlt).2] at HLz
          have hlz := len_of HLz
          rw [kn_length] at hlz
          have HLZ := Lib.hid hlz
          have HWz := Lib.hid (Bm (Bt HWK.out hbr) hmz (fun i h => by have := h.1; omega))
          clear hlz hmz HLq hb7 hbr
          go_wp2_with fail
          go_roundw
          case rel => exact ⟨k + 1, by omega, HLz, HWz.out⟩
          case measure => rw [HLZ.out, HLN.out]; omega
        · obtain rfl : k = 4095 := by omega
          go_wp2_with fail
          refine (len_in _ HLK.out).mono ?_
          rintro e w' ⟨rfl, rfl⟩
          rw [kn_length]
          go_wp2_with fail
          refine (one_any _ 1 1 _).mono ?_
          rintro e wq ⟨rfl, hbo⟩
          have hbr := Bt (Ba (B0 wr) (.cells #[.int .u8 1] 5)) hbo
          have hb7 := (Blk.new wr 5 (bts [1]).toArray).later hbo
          have lr : wr.heap.size < wq.heap.size := Nat.lt_of_lt_of_le (by simp) hbo.size
          have HLq := HLK.out.below hbr
          have HWq := Lib.hid (Bt HWK.out hbr)
          clear hbo hbr HLK HWK HLN
          go_wp2_with fail
          refine (put_in 1 2 _ 1 [1] _ HLq (rd_lit _ _ [1] 5 hb7 (by simp [maxLen])) (fun j hj => by omega) (by simp)).mono ?_
          rintro e wa ⟨rfl, HLa, hma⟩
          rw [kn_full.1]
          rw [kn_full.2] at HLa
          have HWa := Lib.hid (Bm HWq.out hma (fun i h => by have := h.1; omega))
          clear hma HLq hb7 HWq
          go_wp2_with fail
          refine (double_in 0 _ HLa).mono ?_
          rintro e wb ⟨rfl, HLb, hmb⟩
          rw [kn_dblfull.1]
          rw [kn_dblfull.2] at HLb
          have HWb := Lib.hid (Bm HWa.out hmb (fun i h => by have := h.1; omega))
          clear hmb HLa HWa
          go_wp2_with fail
          refine (double_in 4096 _ HLb).mono ?_
          rintro e wc ⟨rfl, HLc, hmc⟩
          rw [kn_dblout.1]
          rw [kn_dblout.2] at HLc
          have HWc := Lib.hid (Bm HWb.out hmc (fun i h => by have := h.1; omega))
          clear hmc HLb HWb
          go_wp2_with fail
          refine (put_in 0 0 none 0 [] _ HLc (Rd.nil _ (fun _ => False) 1) (fun j hj => hj.elim) (by simp)).mono ?_
          rintro e wd ⟨rfl, HLd, hmd⟩
          rw [kn_put00.1]
          rw [kn_put00.2] at HLd
          have HWd := Lib.hid (Bm HWc.out hmd (fun i h => by have := h.1; omega))
          clear hmd HLc HWc
          go_wp2_with fail
          refine (one_any _ 1 1 _).mono ?_
          rintro e we ⟨rfl, hbo⟩
          have hbr := Bt (Ba (B0 wd) (.cells #[.int .u8 1] 5)) hbo
          have hb7 := (Blk.new wd 5 (bts [1]).toArray).later hbo
          have lr : wd.heap.size < we.heap.size := Nat.lt_of_lt_of_le (by simp) hbo.size
          have HLe := HLd.keep (L := fun j => j = wd.heap.size) hbr (fun j hj => .inl ⟨by omega, by omega⟩)
          have HWe := Lib.hid (Bt HWd.out hbr)
          clear hbo hbr HLd HWd
          go_wp2_with fail
          refine (takes_in 4095 1 2 _ 1 [1] _ HLe (rd_lit _ _ [1] 5 hb7 (by simp [maxLen])) (fun j hj => ⟨by omega, .inr hj⟩)).mono ?_
          rintro e wf ⟨rfl, HLf, hmf⟩
          rw [kn_takes.1]
          rw [kn_takes.2] at HLf
          have HWf := Lib.hid (Bm HWe.out hmf (fun i h => by have := h.1; omega))
          clear hmf HLe HWe hb7
          go_wp2_with fail
          refine (double_in 0 _ HLf).mono ?_
          rintro e wg ⟨rfl, HLg, hmg⟩
          rw [kn_dbl.1]
          have HWg := Lib.hid (Bm HWf.out hmg (fun i h => by have := h.1; omega))
          clear hmg HLf HWf
          go_wp2_with fail
          refine (len_in _ HLg).mono ?_
          rintro e w' ⟨rfl, rfl⟩
          rw [kn_dbl.2]
          clear HLg
          go_wp2_with fail
          go_loopw [12, 13] (fun v i wr => ∃ k : Nat, k ≤ 2 ∧ i = .int .i64 k ∧ NoneV wr v ∧ Below W.heap.size W wr) (fun _ i _ => 2 - (intOf i).toNat)
          case atStart => exact ⟨0, by omega, rfl, .inl rfl, HWg.out⟩
          case round =>
            obtain ⟨k, hk, rfl, hnv, hbw⟩ := hrel
            have HNV := Lib.hid hnv
            have HBW := Lib.hid hbw
            clear hnv hbw
            by_cases hk2 : k < 2
            · have hk2' : (k : Int) < 2 := by omega
              go_wp2_with fail
              refine (nv_take _ 0 _ HNV.out).mono ?_
              rintro e x1 ⟨rfl, hx1⟩
              have HN1 := Lib.hid (HNV.out.later (Bt hx1 (Ba (B0 x1) (.cells #[.int .i64 0, .int .i64 0, .slice none 0 0] 30))))
              have HX1 := Lib.hid (Bt HBW.out (Bt hx1 (Ba (B0 x1) (.cells #[.int .i64 0, .int .i64 0, .slice none 0 0] 30))))
              clear hx1
              go_wp2_with fail
              refine (nv_see _ 0 _ HN1.out).mono ?_
              rintro e x2 ⟨rfl, hx2⟩
              have HN2 := Lib.hid (HN1.out.later (Bt hx2 (Ba (B0 x2) (.cells #[.int .i64 0, .int .i64 0, .slice none 0 0] 30))))
              have HX2 := Lib.hid (Bt HX1.out (Bt hx2 (Ba (B0 x2) (.cells #[.int .i64 0, .int .i64 0, .slice none 0 0] 30))))
              clear hx2
              go_wp2_with fail
              refine (one_any none 0 0 _).mono ?_
              rintro e x3 ⟨rfl, hx3⟩
              have HN3 := Lib.hid (HN2.out.later hx3)
              have HX3 := Lib.hid (Bt HX2.out hx3)
              clear hx3
              go_wp2_with fail
              refine (nv_put _ .nilFunc _ HN3.out 1 2 none 0 0).mono ?_
              rintro e x4 ⟨rfl, hx4⟩
              have HN4 := Lib.hid (HN3.out.later hx4)
              have HX4 := Lib.hid (Bt HX3.out hx4)
              clear hx4
              go_wp2_with fail
              refine (nv_double _ 0 _ HN4.out).mono ?_
              rintro e x5 ⟨rfl, hx5⟩
              have HN5 := Lib.hid (HN4.out.later hx5)
              have HX5 := Lib.hid (Bt HX4.out hx5)
              clear hx5
              go_wp2_with fail
              refine (nv_cut _ (-1) _ HN5.out).mono ?_
              rintro e w' ⟨rfl, rfl⟩
              go_wp2_with fail
              refine (nv_len _ _ HN5.out).mono ?_
              rintro e w' ⟨rfl, rfl⟩
              go_wp2_with fail
              refine (nv_reaches _ 1 1 _ HN5.out).mono ?_
              rintro e x6 ⟨rfl, hx6⟩
              have HX6 := Lib.hid (Bt HX5.out hx6)
              clear hx6
              go_wp2_with fail
              go_roundw
              case rel => exact ⟨k + 1, by omega, by go_num, .inr ⟨_, _, _, rfl, Blk.new x6 59 _⟩, Ba HX6.out _⟩
              case measure => simp [intOf]; omega
            · have hk2' : ¬ (k : Int) < 2 := by omega
              go_wp2_with fail
              refine (works_any _).mono ?_
              rintro e x1 ⟨rfl, hx1⟩
              go_wp2_with fail
              go_ret
              exact ⟨rfl, Bt HBW.out hx1⟩
end Go.Proofs.Ytekedgokmmkplaa
