/- The statement WireEnds: its walk. -/
import Derived.Test.YtodijebpoipeiaaE1
import Derived.Deep.Cut
import Derived.Deep.CutBlock
import Derived.Deep.CutRange
import Derived.Deep.RegionHeld3
import Derived.Deep.RegionWith
import Derived.Sort.AtCall
namespace Go.Proofs.Ytodijebpoipeiaa
open Go.RowKit
set_option maxRecDepth 100000
set_option linter.unusedVariables false
set_option linter.unusedSimpArgs false

theorem made_zero (n : Nat) : madeCells #[.int .u8 0] n = (bts (List.replicate n 0)).toArray := by
  refine Array.ext (by simp [madeCells, bts]) (fun i h1 h2 => ?_)
  simp [madeCells, bts, Nat.mod_one]
theorem mk_zero (n : Nat) (l : Int) (hl : l = n) (h : n ≤ 140737488355328) (B : List Int) (hB : B = List.replicate n 0) (u : World) :
    (Instr.makeSlice 27 (.int .i64 l) (.int .i64 l)).run Try.prog u = .ok (.slice (some ⟨u.heap.size, 0, none⟩) B.length B.length) (u.alloc (.cells (bts B).toArray 5)) := by
  obtain ⟨i0, hi0, hz0, hz1, hz2⟩ := info_parts info5
  have hr := run_make (P := Try.prog) u 27 5 i0 _ Try.underlying27 hi0 hz0 .i64 .i64 l l (by omega) (Int.le_refl _) (by rw [hz2]; omega) (by omega)
  rw [hr, hz1, hl, hB]
  have e : (n : Int).toNat = n := by omega
  rw [e, Nat.mul_one, List.length_replicate]
  show Result.ok (Value.slice (some ⟨u.heap.size, 0, none⟩) n n) (u.alloc (.cells (madeCells #[.int .u8 0] n) 5)) = _
  rw [made_zero]
theorem WrIn.loose {B p : Nat} {K : Nat → Prop} {w : World} {xs : List Int} (h : WrIn B K w p xs) : WrIn B (fun _ => False) w p xs := by
  obtain ⟨h1, h2, S, h3, h4⟩ := h
  exact ⟨h1, fun i hi => hi.elim, S, fun i hi => ⟨(h3 i hi).1, fun h => h⟩, h4⟩
theorem k_1 : putE (4660) 1 = 9 := by decide +kernel
theorem k_2 : putL [] (4660) 1 = [] := by decide +kernel
theorem k_3 : putE (-9) 4 = 9 := by decide +kernel
theorem k_4 : putL [] (-9) 4 = [] := by decide +kernel
theorem k_5 : putE (3) (-1) = 2 := by decide +kernel
theorem k_6 : putL [] (3) (-1) = [] := by decide +kernel
theorem k_7 : putE (3) 12 = 2 := by decide +kernel
theorem k_8 : putL [] (3) 12 = [] := by decide +kernel
theorem k_9 : putE (-1) 0 = 2 := by decide +kernel
theorem k_10 : putL [] (-1) 0 = [] := by decide +kernel
theorem k_11 : putE (-9223372036854775808) 8 = 9 := by decide +kernel
theorem k_12 : putL [] (-9223372036854775808) 8 = [] := by decide +kernel
theorem k_13 : putE (9223372036854775807) 7 = 9 := by decide +kernel
theorem k_14 : putL [] (9223372036854775807) 7 = [] := by decide +kernel
theorem k_15 : putL [] 4660 3 = [0, 18, 52] := by decide +kernel
theorem k_16 : putL [] 9223372036854775806 8 = [127, 255, 255, 255, 255, 255, 255, 254] := by decide +kernel
theorem k_17 : putL [] 255 1 = [255] := by decide +kernel
theorem k_18 : putL [] 0 5 = [0, 0, 0, 0, 0] := by decide +kernel
theorem k_19 : getV [128, 0, 0, 0, 0, 0, 0, 0] 8 = 0 := by decide +kernel
theorem k_20 : getE [128, 0, 0, 0, 0, 0, 0, 0] 8 = 9 := by decide +kernel
theorem k_21 : getL [128, 0, 0, 0, 0, 0, 0, 0] 8 = [128, 0, 0, 0, 0, 0, 0, 0] := by decide +kernel
theorem k_22 : getV [127, 255, 255, 255, 255, 255, 255, 255] 8 = 9223372036854775807 := by decide +kernel
theorem k_23 : getE [127, 255, 255, 255, 255, 255, 255, 255] 8 = 0 := by decide +kernel
theorem k_24 : getL [127, 255, 255, 255, 255, 255, 255, 255] 8 = [] := by decide +kernel
theorem k_25 : roV [0, 3, 119, 136] 3 = [] := by decide +kernel
theorem k_26 : roE [0, 3, 119, 136] 3 = 3 := by decide +kernel
theorem k_27 : roL [0, 3, 119, 136] 3 = [0, 3, 119, 136] := by decide +kernel
theorem k_28 : roV [0, 3, 119, 136] 2 = [] := by decide +kernel
theorem k_29 : roE [0, 3, 119, 136] 2 = 5 := by decide +kernel
theorem k_30 : roL [0, 3, 119, 136] 2 = [0, 3, 119, 136] := by decide +kernel
theorem k_31 : roV [0, 3, 119, 136] (-1) = [] := by decide +kernel
theorem k_32 : roE [0, 3, 119, 136] (-1) = 5 := by decide +kernel
theorem k_33 : roL [0, 3, 119, 136] (-1) = [0, 3, 119, 136] := by decide +kernel
theorem k_34 : bytV [0, 3, 119, 136] (-1) = [] := by decide +kernel
theorem k_35 : bytE [0, 3, 119, 136] (-1) = 2 := by decide +kernel
theorem k_36 : bytL [0, 3, 119, 136] (-1) = [0, 3, 119, 136] := by decide +kernel
theorem k_37 : bytV [0, 3, 119, 136] 5 = [] := by decide +kernel
theorem k_38 : bytE [0, 3, 119, 136] 5 = 3 := by decide +kernel
theorem k_39 : bytL [0, 3, 119, 136] 5 = [0, 3, 119, 136] := by decide +kernel
theorem k_40 : getV [0, 3, 119, 136] 0 = 0 := by decide +kernel
theorem k_41 : getE [0, 3, 119, 136] 0 = 2 := by decide +kernel
theorem k_42 : getL [0, 3, 119, 136] 0 = [0, 3, 119, 136] := by decide +kernel
theorem k_43 : getV [0, 3, 119, 136] 9 = 0 := by decide +kernel
theorem k_44 : getE [0, 3, 119, 136] 9 = 2 := by decide +kernel
theorem k_45 : getL [0, 3, 119, 136] 9 = [0, 3, 119, 136] := by decide +kernel
theorem k_46 : getV [0, 3, 119, 136] 5 = 0 := by decide +kernel
theorem k_47 : getE [0, 3, 119, 136] 5 = 3 := by decide +kernel
theorem k_48 : getL [0, 3, 119, 136] 5 = [0, 3, 119, 136] := by decide +kernel
theorem k_49 : endE [0, 3, 119, 136] = 4 := by decide +kernel
theorem k_50 : bytV [0, 3, 119, 136] 4 = [0, 3, 119, 136] := by decide +kernel
theorem k_51 : bytE [0, 3, 119, 136] 4 = 0 := by decide +kernel
theorem k_52 : bytL [0, 3, 119, 136] 4 = [] := by decide +kernel
theorem k_53 : roV [] 9 = [] := by decide +kernel
theorem k_54 : roE [] 9 = 3 := by decide +kernel
theorem k_55 : roL [] 9 = [] := by decide +kernel
set_option maxHeartbeats 8000000 in
theorem ends_walk (W : World) : Calls Try.prog 10 #[] W fun e w' => e = .returned (.bool true) ∧ Below W.heap.size W w' := by
  obtain ⟨B6, hB6⟩ : ∃ B : List Int, B = List.replicate 65536 0 := ⟨_, rfl⟩
  obtain ⟨B5, hB5⟩ : ∃ B : List Int, B = List.replicate 65535 0 := ⟨_, rfl⟩
  have hmk6 := mk_zero 65536 65536 rfl (by omega) B6 hB6
  have hmk5 := mk_zero 65535 65535 rfl (by omega) B5 hB5
  have HL6 := Lib.hid (show B6.length = 65536 by rw [hB6, List.length_replicate])
  have HL5 := Lib.hid (show B5.length = 65535 by rw [hB5, List.length_replicate])
  have HO6 := Lib.hid (show octE B6 = 5 ∧ octL [] B6 = [] by unfold octE octL; rw [if_pos (by have := HL6.out; omega), if_pos (by have := HL6.out; omega)]; exact ⟨rfl, rfl⟩)
  have HO5 := Lib.hid (show octE B5 = 0 ∧ (octL [] B5).length = 65537 by unfold octE octL; rw [if_neg (by have := HL5.out; omega), if_neg (by have := HL5.out; omega)]; refine ⟨rfl, ?_⟩; simp [be_length]; have := HL5.out; omega)
  clear hB6 hB5
  go_enter Try.func10, Try.ntmps10
  go_wp2_with fail
  refine (write_in (fun _ => False) W (fun _ h => h.elim) W.heap.size (Nat.le_refl _)).mono ?_
  rintro e w1 ⟨rfl, hw1, hb1⟩
  obtain ⟨p, hp⟩ : ∃ p, p = W.heap.size + 1 := ⟨_, rfl⟩
  rw [← hp] at hw1 ⊢
  have HW1 := Lib.hid hw1
  have HB1 := Lib.hid hb1
  clear hw1 hb1 hp
  go_wp2_with fail
  refine (put_in (4660) 1 (by omega) w1 HW1.out (by simp)).mono ?_
  rintro e w2 ⟨rfl, hw, hm⟩
  rw [k_1]
  rw [k_2] at hw
  have HW2 := Lib.hid hw
  have HB2 := Lib.hid (Bm HB1.out hm (fun i hi => hi.1))
  clear hw hm HW1 HB1
  go_wp2_with fail
  refine (put_in (-9) 4 (by omega) w2 HW2.out (by simp)).mono ?_
  rintro e w3 ⟨rfl, hw, hm⟩
  rw [k_3]
  rw [k_4] at hw
  have HW3 := Lib.hid hw
  have HB3 := Lib.hid (Bm HB2.out hm (fun i hi => hi.1))
  clear hw hm HW2 HB2
  go_wp2_with fail
  refine (put_in (3) (-1) (by omega) w3 HW3.out (by simp)).mono ?_
  rintro e w4 ⟨rfl, hw, hm⟩
  rw [k_5]
  rw [k_6] at hw
  have HW4 := Lib.hid hw
  have HB4 := Lib.hid (Bm HB3.out hm (fun i hi => hi.1))
  clear hw hm HW3 HB3
  go_wp2_with fail
  refine (put_in (3) 12 (by omega) w4 HW4.out (by simp)).mono ?_
  rintro e w5 ⟨rfl, hw, hm⟩
  rw [k_7]
  rw [k_8] at hw
  have HW5 := Lib.hid hw
  have HB5 := Lib.hid (Bm HB4.out hm (fun i hi => hi.1))
  clear hw hm HW4 HB4
  go_wp2_with fail
  refine (put_in (-1) 0 (by omega) w5 HW5.out (by simp)).mono ?_
  rintro e w6 ⟨rfl, hw, hm⟩
  rw [k_9]
  rw [k_10] at hw
  have HW6 := Lib.hid hw
  have HB6 := Lib.hid (Bm HB5.out hm (fun i hi => hi.1))
  clear hw hm HW5 HB5
  go_wp2_with fail
  refine (put_in (-9223372036854775808) 8 (by omega) w6 HW6.out (by simp)).mono ?_
  rintro e w7 ⟨rfl, hw, hm⟩
  rw [k_11]
  rw [k_12] at hw
  have HW7 := Lib.hid hw
  have HB7 := Lib.hid (Bm HB6.out hm (fun i hi => hi.1))
  clear hw hm HW6 HB6
  go_wp2_with fail
  refine (put_in (9223372036854775807) 7 (by omega) w7 HW7.out (by simp)).mono ?_
  rintro e w8 ⟨rfl, hw, hm⟩
  rw [k_13]
  rw [k_14] at hw
  have HW8 := Lib.hid hw
  have HB8 := Lib.hid (Bm HB7.out hm (fun i hi => hi.1))
  clear hw hm HW7 HB7
  go_wp2_with fail
  refine (octets_in (T := fun i => i = w8.heap.size) B6 _ _ _ (HW8.out.keep (L := fun i => i = w8.heap.size) (Ba (B0 w8) _) (fun i hi => .inl (by subst hi; simp))) (rd_lit _ _ B6 5 (Blk.new w8 5 _) (by have := HL6.out; simp only [maxLen]; omega)) (fun i hi => by subst hi; simp) (by have := HL6.out; simp; omega)).mono ?_
  rw [HO6.out.1, HO6.out.2]
  rintro e w9 ⟨rfl, hw, hm⟩
  have HW9 := Lib.hid hw.loose
  have HB9 := Lib.hid (Bm (Ba HB8.out _) hm (fun i hi => hi.1))
  clear hw hm HW8 HB8
  go_wp2_with fail
  refine (out_in w9 HW9.out (by simp)).mono ?_
  rintro e w10 ⟨A10, c10, rfl, hf⟩
  have HW10 := Lib.hid (HW9.out.below hf.kept)
  have HB10 := Lib.hid (Bt HB9.out hf.kept)
  clear hf HW9 HB9
  go_upto_region 4 with fail
  have hmk0 : ∀ u : World, (Instr.makeSlice 27 (.int .i64 5) (.int .i64 5)).run Try.prog u = .ok (.slice (some ⟨u.heap.size, 0, none⟩) 5 5) (u.alloc (.cells (bts [0, 0, 0, 0, 0]).toArray 5)) := fun u => mk_zero 5 5 rfl (by omega) _ rfl u
  go_cut [4] from 90 to 110 (fun v wx => v = .bool true ∧ Below w10.heap.size w10 wx)
  case first =>
    go_region_held3 (fun _ => True) (exact trivial)
      (first
        | (go_at_call 22; have hs4 := s4; refine (eq_bytes _ _ _ _ [0, 0, 0, 0, 0] [0, 0, 0, 0, 0] _ (by first | exact hf4.out.rd | exact hf4.out.rd1 _) (rd_lit _ _ [0, 0, 0, 0, 0] 5 (by first | exact Blk.new _ 5 _ | exact (Blk.new _ 5 _).drew.later hf4.out.kept | exact (Blk.new _ 5 _).later hf4.out.kept) (by simp [maxLen]))).mono ?_; rintro e y4 ⟨rfl, hw4⟩; rw [eqB_self]; have hy4 : Below w10.heap.size w10 y4 := (by obtain ⟨n, rfl⟩ := hw4; exact BdN (by repeat (first | exact hx4 | apply Bd | apply BdN | apply Ba)) n); clear hw4; have q4 := trivial)
        | (go_at_call 39; have hq4 := q3; refine (sput_any 0 5 (by omega) _).mono ?_; rw [k_18]; rintro e x4 ⟨A4, c4, rfl, hf4⟩; have s4 := trivial; have hx4 : Below w10.heap.size w10 x4 := Bt (by repeat (first | exact B0 _ | exact hy3 | apply Bd | apply BdN | apply Ba)) hf4.kept; replace hf4 := Lib.hid hf4)
        | (go_at_call 22; have hs3 := s3; refine (eq_bytes _ _ _ _ [255] [255] _ (by first | exact hf3.out.rd | exact hf3.out.rd1 _) (rd_lit _ _ [255] 5 (by first | exact Blk.new _ 5 _ | exact (Blk.new _ 5 _).drew.later hf3.out.kept | exact (Blk.new _ 5 _).later hf3.out.kept) (by simp [maxLen]))).mono ?_; rintro e y3 ⟨rfl, hw3⟩; rw [eqB_self]; have hy3 : Below w10.heap.size w10 y3 := (by obtain ⟨n, rfl⟩ := hw3; exact BdN (by repeat (first | exact hx3 | apply Bd | apply BdN | apply Ba)) n); clear hw3; have q3 := trivial)
        | (go_at_call 39; have hq3 := q2; refine (sput_any 255 1 (by omega) _).mono ?_; rw [k_17]; rintro e x3 ⟨A3, c3, rfl, hf3⟩; have s3 := trivial; have hx3 : Below w10.heap.size w10 x3 := Bt (by repeat (first | exact B0 _ | exact hy2 | apply Bd | apply BdN | apply Ba)) hf3.kept; replace hf3 := Lib.hid hf3)
        | (go_at_call 22; have hs2 := s2; refine (eq_bytes _ _ _ _ [127, 255, 255, 255, 255, 255, 255, 254] [127, 255, 255, 255, 255, 255, 255, 254] _ (by first | exact hf2.out.rd | exact hf2.out.rd1 _) (rd_lit _ _ [127, 255, 255, 255, 255, 255, 255, 254] 5 (by first | exact Blk.new _ 5 _ | exact (Blk.new _ 5 _).drew.later hf2.out.kept | exact (Blk.new _ 5 _).later hf2.out.kept) (by simp [maxLen]))).mono ?_; rintro e y2 ⟨rfl, hw2⟩; rw [eqB_self]; have hy2 : Below w10.heap.size w10 y2 := (by obtain ⟨n, rfl⟩ := hw2; exact BdN (by repeat (first | exact hx2 | apply Bd | apply BdN | apply Ba)) n); clear hw2; have q2 := trivial)
        | (go_at_call 39; have hq2 := q1; refine (sput_any 9223372036854775806 8 (by omega) _).mono ?_; rw [k_16]; rintro e x2 ⟨A2, c2, rfl, hf2⟩; have s2 := trivial; have hx2 : Below w10.heap.size w10 x2 := Bt (by repeat (first | exact B0 _ | exact hy1 | apply Bd | apply BdN | apply Ba)) hf2.kept; replace hf2 := Lib.hid hf2)
        | (go_at_call 39; refine (sput_any 4660 3 (by omega) _).mono ?_; rw [k_15]; rintro e x1 ⟨A1, c1, rfl, hf1⟩; have s1 := trivial; have hx1 : Below w10.heap.size w10 x1 := Bt (by repeat (first | exact B0 _ | exact B0 _ | apply Bd | apply BdN | apply Ba)) hf1.kept; replace hf1 := Lib.hid hf1)
        | (go_at_call 22; have hs1 := s1; refine (eq_bytes _ _ _ _ [0, 18, 52] [0, 18, 52] _ (by first | exact hf1.out.rd | exact hf1.out.rd1 _) (rd_lit _ _ [0, 18, 52] 5 (by first | exact Blk.new _ 5 _ | exact (Blk.new _ 5 _).drew.later hf1.out.kept | exact (Blk.new _ 5 _).later hf1.out.kept) (by simp [maxLen]))).mono ?_; rintro e y1 ⟨rfl, hw1⟩; rw [eqB_self]; have hy1 : Below w10.heap.size w10 y1 := (by obtain ⟨n, rfl⟩ := hw1; exact BdN (by repeat (first | exact hx1 | apply Bd | apply BdN | apply Ba)) n); clear hw1; have q1 := trivial))
    all_goals
      go_wp2_with fail
      go_meet
      exact ⟨rfl, hy4⟩
  case rest =>
    obtain ⟨rfl, hcw⟩ := hcut
    have HW11 := Lib.hid (HW10.out.below hcw)
    have HB11 := Lib.hid (Bt HB10.out hcw)
    obtain ⟨w11, rfl⟩ : ∃ w11, w11 = wc := ⟨_, rfl⟩
    clear hcw hmk0 HW10 HB10
    go_wp2_with fail
    refine (octets_in (T := fun i => i = w11.heap.size) B5 _ _ _ (HW11.out.keep (L := fun i => i = w11.heap.size) (Ba (B0 w11) _) (fun i hi => .inl (by subst hi; simp))) (rd_lit _ _ B5 5 (Blk.new w11 5 _) (by have := HL5.out; simp only [maxLen]; omega)) (fun i hi => by subst hi; simp) (by have := HL5.out; simp; omega)).mono ?_
    rw [HO5.out.1]
    rintro e w12 ⟨rfl, hw, hm⟩
    obtain ⟨L5, hL5⟩ : ∃ L, L = octL [] B5 := ⟨_, rfl⟩
    rw [← hL5] at hw
    have hl5 : L5.length = 65537 := by rw [hL5]; exact HO5.out.2
    have HLL := Lib.hid hl5
    have hlq : ((L5.length : Int) == 65537) = true := by rw [hl5]; rfl
    have HW12 := Lib.hid hw.loose
    have HB12 := Lib.hid (Bm (Ba HB11.out _) hm (fun i hi => hi.1))
    clear hw hm HW11 HB11 hL5 hl5
    go_wp2_with fail
    refine (out_in w12 HW12.out (by have := HLL.out; omega)).mono ?_
    rintro e w13 ⟨A13, c13, rfl, hf⟩
    have HB13 := Lib.hid (Bt HB12.out hf.kept)
    clear hf HW12 HB12
    go_wp2_with fail
    refine (rnew_any (fun i => i = w13.heap.size) _ _ [128, 0, 0, 0, 0, 0, 0, 0] _ (rd_lit _ _ [128, 0, 0, 0, 0, 0, 0, 0] 5 (Blk.new w13 5 _) (by simp [maxLen])) (fun i hi => by subst hi; simp) (by simp)).mono ?_
    rintro e w14 ⟨rh, Sh, rfl, hR, hb, hS⟩
    have hS' : ∀ i, Sh i → w13.heap.size ≤ i := fun i hi => by have := hS i hi; simp at this; omega
    have HSh := Lib.hid (And.intro hS' (And.intro (fun i (hi : Sh i) => Nat.le_trans HB13.out.size (hS' i hi)) (show ∀ i, Sh i → i < w14.heap.size by obtain ⟨_, _, _, _, h⟩ := hR; exact h.1)))
    have HB14 := Lib.hid (Bt (Ba HB13.out _) hb)
    have l14 : w13.heap.size ≤ w14.heap.size := by have := hb.size; simp at this; omega
    have HRh := Lib.hid hR
    clear hR hb hS hS' HB13
    go_wp2_with fail
    refine (get_any Sh rh [128, 0, 0, 0, 0, 0, 0, 0] 8 w14 HRh.out (by intro x hx; simp at hx <;> omega)).mono ?_
    rintro e w15 ⟨rfl, hm, hR⟩
    rw [k_19, k_20]
    rw [k_21] at hR
    replace HRh := Lib.hid hR
    have HB15 := Lib.hid (Bm HB14.out hm (fun i hi => HSh.out.2.1 i hi))
    have l15 := hm.size
    clear hm hR HB14
    go_wp2_with fail
    refine (rnew_any (fun i => i = w15.heap.size) _ _ [127, 255, 255, 255, 255, 255, 255, 255] _ (rd_lit _ _ [127, 255, 255, 255, 255, 255, 255, 255] 5 (Blk.new w15 5 _) (by simp [maxLen])) (fun i hi => by subst hi; simp) (by simp)).mono ?_
    rintro e w16 ⟨rt, St, rfl, hR, hb, hS⟩
    have hS' : ∀ i, St i → w15.heap.size ≤ i := fun i hi => by have := hS i hi; simp at this; omega
    have HSt := Lib.hid (And.intro hS' (And.intro (fun i (hi : St i) => Nat.le_trans HB15.out.size (hS' i hi)) (show ∀ i, St i → i < w16.heap.size by obtain ⟨_, _, _, _, h⟩ := hR; exact h.1)))
    have HB16 := Lib.hid (Bt (Ba HB15.out _) hb)
    have l16 : w15.heap.size ≤ w16.heap.size := by have := hb.size; simp at this; omega
    replace HRh := Lib.hid (HRh.out.below (Bt (Ba (B0 w15) _) hb))
    have HRt := Lib.hid hR
    clear hR hb hS hS' HB15
    go_wp2_with fail
    refine (get_any St rt [127, 255, 255, 255, 255, 255, 255, 255] 8 w16 HRt.out (by intro x hx; simp at hx <;> omega)).mono ?_
    rintro e w17 ⟨rfl, hm, hR⟩
    rw [k_22, k_23]
    rw [k_24] at hR
    replace HRh := Lib.hid (HRh.out.kept hm (fun i hy hx => by have h1 := HSh.out.2.2 i hy; have h2 := HSt.out.1 i hx; omega))
    replace HRt := Lib.hid hR
    have HB17 := Lib.hid (Bm HB16.out hm (fun i hi => HSt.out.2.1 i hi))
    have l17 := hm.size
    clear hm hR HB16
    go_wp2_with fail
    refine (rnew_any (fun i => i = w17.heap.size) _ _ [0, 3, 119, 136] _ (rd_lit _ _ [0, 3, 119, 136] 5 (Blk.new w17 5 _) (by simp [maxLen])) (fun i hi => by subst hi; simp) (by simp)).mono ?_
    rintro e w18 ⟨rr, Sr, rfl, hR, hb, hS⟩
    have hS' : ∀ i, Sr i → w17.heap.size ≤ i := fun i hi => by have := hS i hi; simp at this; omega
    have HSr := Lib.hid (And.intro hS' (And.intro (fun i (hi : Sr i) => Nat.le_trans HB17.out.size (hS' i hi)) (show ∀ i, Sr i → i < w18.heap.size by obtain ⟨_, _, _, _, h⟩ := hR; exact h.1)))
    have HB18 := Lib.hid (Bt (Ba HB17.out _) hb)
    have l18 : w17.heap.size ≤ w18.heap.size := by have := hb.size; simp at this; omega
    replace HRh := Lib.hid (HRh.out.below (Bt (Ba (B0 w17) _) hb))
    have HRr := Lib.hid hR
    clear hR hb hS hS' HB17
    go_wp2_with fail
    refine (roctets_any Sr rr [0, 3, 119, 136] 3 w18 HRr.out (by intro x hx; simp at hx <;> omega)).mono ?_
    rintro e w19 ⟨A19, c19, rfl, ho, hm, hR⟩
    rw [k_25, k_26]
    rw [k_27] at hR
    clear ho
    replace HRh := Lib.hid (HRh.out.kept hm (fun i hy hx => by have h1 := HSh.out.2.2 i hy; have h2 := HSr.out.1 i hx; omega))
    replace HRr := Lib.hid hR
    have HB19 := Lib.hid (Bm HB18.out hm (fun i hi => HSr.out.2.1 i hi))
    have l19 := hm.size
    clear hm hR HB18
    go_wp2_with fail
    refine (roctets_any Sr rr [0, 3, 119, 136] 2 w19 HRr.out (by intro x hx; simp at hx <;> omega)).mono ?_
    rintro e w20 ⟨A20, c20, rfl, ho, hm, hR⟩
    rw [k_28, k_29]
    rw [k_30] at hR
    clear ho
    replace HRh := Lib.hid (HRh.out.kept hm (fun i hy hx => by have h1 := HSh.out.2.2 i hy; have h2 := HSr.out.1 i hx; omega))
    replace HRr := Lib.hid hR
    have HB20 := Lib.hid (Bm HB19.out hm (fun i hi => HSr.out.2.1 i hi))
    have l20 := hm.size
    clear hm hR HB19
    go_wp2_with fail
    refine (roctets_any Sr rr [0, 3, 119, 136] (-1) w20 HRr.out (by intro x hx; simp at hx <;> omega)).mono ?_
    rintro e w21 ⟨A21, c21, rfl, ho, hm, hR⟩
    rw [k_31, k_32]
    rw [k_33] at hR
    clear ho
    replace HRh := Lib.hid (HRh.out.kept hm (fun i hy hx => by have h1 := HSh.out.2.2 i hy; have h2 := HSr.out.1 i hx; omega))
    replace HRr := Lib.hid hR
    have HB21 := Lib.hid (Bm HB20.out hm (fun i hi => HSr.out.2.1 i hi))
    have l21 := hm.size
    clear hm hR HB20
    go_wp2_with fail
    refine (rbytes_any Sr rr [0, 3, 119, 136] (-1) w21 HRr.out).mono ?_
    rintro e w22 ⟨A22, c22, rfl, ho, hm, hR⟩
    rw [k_34] at ho ⊢
    rw [k_35]
    rw [k_36] at hR
    clear ho
    replace HRh := Lib.hid (HRh.out.kept hm (fun i hy hx => by have h1 := HSh.out.2.2 i hy; have h2 := HSr.out.1 i hx; omega))
    replace HRr := Lib.hid hR
    have HB22 := Lib.hid (Bm HB21.out hm (fun i hi => HSr.out.2.1 i hi))
    have l22 := hm.size
    clear hm hR HB21
    go_wp2_with fail
    refine (rbytes_any Sr rr [0, 3, 119, 136] 5 w22 HRr.out).mono ?_
    rintro e w23 ⟨A23, c23, rfl, ho, hm, hR⟩
    rw [k_37] at ho ⊢
    rw [k_38]
    rw [k_39] at hR
    clear ho
    replace HRh := Lib.hid (HRh.out.kept hm (fun i hy hx => by have h1 := HSh.out.2.2 i hy; have h2 := HSr.out.1 i hx; omega))
    replace HRr := Lib.hid hR
    have HB23 := Lib.hid (Bm HB22.out hm (fun i hi => HSr.out.2.1 i hi))
    have l23 := hm.size
    clear hm hR HB22
    go_wp2_with fail
    refine (get_any Sr rr [0, 3, 119, 136] 0 w23 HRr.out (by intro x hx; simp at hx <;> omega)).mono ?_
    rintro e w24 ⟨rfl, hm, hR⟩
    rw [k_40, k_41]
    rw [k_42] at hR
    replace HRh := Lib.hid (HRh.out.kept hm (fun i hy hx => by have h1 := HSh.out.2.2 i hy; have h2 := HSr.out.1 i hx; omega))
    replace HRr := Lib.hid hR
    have HB24 := Lib.hid (Bm HB23.out hm (fun i hi => HSr.out.2.1 i hi))
    have l24 := hm.size
    clear hm hR HB23
    go_wp2_with fail
    refine (get_any Sr rr [0, 3, 119, 136] 9 w24 HRr.out (by intro x hx; simp at hx <;> omega)).mono ?_
    rintro e w25 ⟨rfl, hm, hR⟩
    rw [k_43, k_44]
    rw [k_45] at hR
    replace HRh := Lib.hid (HRh.out.kept hm (fun i hy hx => by have h1 := HSh.out.2.2 i hy; have h2 := HSr.out.1 i hx; omega))
    replace HRr := Lib.hid hR
    have HB25 := Lib.hid (Bm HB24.out hm (fun i hi => HSr.out.2.1 i hi))
    have l25 := hm.size
    clear hm hR HB24
    go_wp2_with fail
    refine (get_any Sr rr [0, 3, 119, 136] 5 w25 HRr.out (by intro x hx; simp at hx <;> omega)).mono ?_
    rintro e w26 ⟨rfl, hm, hR⟩
    rw [k_46, k_47]
    rw [k_48] at hR
    replace HRh := Lib.hid (HRh.out.kept hm (fun i hy hx => by have h1 := HSh.out.2.2 i hy; have h2 := HSr.out.1 i hx; omega))
    replace HRr := Lib.hid hR
    have HB26 := Lib.hid (Bm HB25.out hm (fun i hi => HSr.out.2.1 i hi))
    have l26 := hm.size
    clear hm hR HB25
    go_wp2_with fail
    refine (end_any Sr rr [0, 3, 119, 136] w26 HRr.out).mono ?_
    rw [k_49]
    rintro e w27 ⟨rfl, hw⟩
    have hb : Below w26.heap.size w26 w27 := by obtain ⟨n, rfl⟩ := hw; exact BdN (B0 _) n
    replace HRh := Lib.hid (HRh.out.below hb)
    replace HRr := Lib.hid (HRr.out.below hb)
    have HB27 := Lib.hid (Bt HB26.out hb)
    have l27 := hb.size
    clear hw hb HB26
    go_wp2_with fail
    refine (rbytes_any Sr rr [0, 3, 119, 136] 4 w27 HRr.out).mono ?_
    rintro e w28 ⟨A28, c28, rfl, ho, hm, hR⟩
    rw [k_50] at ho ⊢
    rw [k_51]
    rw [k_52] at hR
    have HO := Lib.hid ho
    clear ho
    replace HRh := Lib.hid (HRh.out.kept hm (fun i hy hx => by have h1 := HSh.out.2.2 i hy; have h2 := HSr.out.1 i hx; omega))
    replace HRr := Lib.hid hR
    have HB28 := Lib.hid (Bm HB27.out hm (fun i hi => HSr.out.2.1 i hi))
    have l28 := hm.size
    clear hm hR HB27
    go_wp2_with fail
    refine (roctets_any Sr rr [] 9 w28 HRr.out (by intro x hx; simp at hx <;> omega)).mono ?_
    rintro e w29 ⟨A29, c29, rfl, ho, hm, hR⟩
    rw [k_53, k_54]
    rw [k_55] at hR
    clear ho
    replace HRh := Lib.hid (HRh.out.kept hm (fun i hy hx => by have h1 := HSh.out.2.2 i hy; have h2 := HSr.out.1 i hx; omega))
    replace HRr := Lib.hid hR
    have HB29 := Lib.hid (Bm HB28.out hm (fun i hi => HSr.out.2.1 i hi))
    have l29 := hm.size
    have HX28 := Lib.hid ((Rd.of_own HO.out).kept hm (fun i hi hs => by have h1 := own_ge HO.out i hi; have h2 := HSr.out.2.2 i hs; omega))
    have LX28 := Lib.hid (fun i hi => Nat.lt_of_lt_of_le (own_lt HO.out i hi) hm.size)
    clear hm hR HB28
    go_wp2_with fail
    refine (left_any Sh rh [128, 0, 0, 0, 0, 0, 0, 0] w29 HRh.out).mono ?_
    rintro e w30 ⟨rfl, hw⟩
    have hb : Below w29.heap.size w29 w30 := by obtain ⟨n, rfl⟩ := hw; exact BdN (B0 _) n
    have HX30 := Lib.hid (HX28.out.below hb (fun i hi => LX28.out i hi))
    have LX30 := Lib.hid (fun i hi => Nat.lt_of_lt_of_le (LX28.out i hi) hb.size)
    replace HRr := Lib.hid (HRr.out.below hb)
    have HB30 := Lib.hid (Bt HB29.out hb)
    clear hw hb HRh HB29
    go_wp2_with fail
    refine (eq_bytes _ _ _ _ [0, 3, 119, 136] [0, 3, 119, 136] _ (HX30.out.below (Ba (B0 w30) _) LX30.out) (rd_lit _ _ [0, 3, 119, 136] 5 (Blk.new w30 5 _) (by simp [maxLen]))).mono ?_
    rintro e w31 ⟨rfl, hw⟩
    rw [eqB_self]
    have hb : Below w30.heap.size w30 w31 := by obtain ⟨n, rfl⟩ := hw; exact BdN (Ba (B0 _) _) n
    replace HRr := Lib.hid (HRr.out.below hb)
    have HB31 := Lib.hid (Bt HB30.out hb)
    clear hw hb HB30 HX30 LX30 HX28 LX28
    go_wp2_with fail
    refine (end_any Sr rr [] w31 HRr.out).mono ?_
    rw [endE_1]
    rintro e w32 ⟨rfl, hw⟩
    have HB32 := Lib.hid (show Below W.heap.size W w32 by obtain ⟨n, rfl⟩ := hw; exact BdN HB31.out n)
    clear hw HRr HB31
    go_wp2_with fail
    go_loopw [34, 35, 36] (fun nv gv i wr => ∃ k : Nat, k ≤ 2 ∧ i = .int .i64 k ∧ NilP wr 59 nv ∧ NilP wr 60 gv ∧ Below W.heap.size W wr) (fun _ _ i _ => 2 - (intOf i).toNat)
    case atStart => exact ⟨0, by omega, rfl, .inl rfl, .inl rfl, HB32.out⟩
    case round =>
      obtain ⟨k, hk, rfl, hn, hg, hb⟩ := hrel
      have HN := Lib.hid hn
      have HG := Lib.hid hg
      have HB := Lib.hid hb
      clear hn hg hb
      by_cases hlt : k < 2
      · have hlt2 : (k : Int) < 2 := by omega
        go_wp2_with fail
        refine (get_nil _ 0 wr HG.out).mono ?_
        rintro e w' ⟨rfl, rfl⟩
        go_wp2_with fail
        refine (rbytes_nil _ (-1) wr HG.out).mono ?_
        rintro e w' ⟨rfl, rfl⟩
        go_wp2_with fail
        refine (roctets_nil _ (-1) wr HG.out).mono ?_
        rintro e v1 ⟨rfl, hb1⟩
        have HN1 := Lib.hid (HN.out.below hb1)
        have HG1 := Lib.hid (HG.out.below hb1)
        have HV1 := Lib.hid (Bt HB.out hb1)
        clear hb1
        go_wp2_with fail
        refine (put_nil _ (-1) 0 v1 HN1.out).mono ?_
        rintro e w' ⟨rfl, rfl⟩
        go_wp2_with fail
        refine (wbytes_nil _ none 0 0 v1 HN1.out).mono ?_
        rintro e w' ⟨rfl, rfl⟩
        go_wp2_with fail
        refine (octets_nil _ _ _ _ _ (HN1.out.below (Ba (B0 v1) _))).mono ?_
        rintro e v2 ⟨rfl, hv2⟩
        have hb2 : Below v1.heap.size v1 v2 := by rw [← hv2]; exact Ba (B0 v1) _
        have HN2 := Lib.hid (HN1.out.below hb2)
        have HG2 := Lib.hid (HG1.out.below hb2)
        have HV2 := Lib.hid (Bt HV1.out hb2)
        clear hv2 hb2
        go_wp2_with fail
        refine (out_nil _ v2 HN2.out).mono ?_
        rintro e w' ⟨rfl, rfl⟩
        go_wp2_with fail
        refine (left_nil _ v2 HG2.out).mono ?_
        rintro e w' ⟨rfl, rfl⟩
        go_wp2_with fail
        refine (end_nil _ v2 HG2.out).mono ?_
        rintro e w' ⟨rfl, rfl⟩
        go_wp2_with fail
        go_roundw
        case rel => exact ⟨k + 1, by omega, by go_num, .inr ⟨v2.heap.size, rfl, (Blk.new v2 _ _).alloc _⟩, .inr ⟨v2.heap.size + 1, rfl, Blk.new1 v2 _ _ _⟩, Ba (Ba HV2.out _) _⟩
        case measure => simp [intOf]; omega
      · have hlt2 : ¬ (k : Int) < 2 := by omega
        go_wp2_with fail
        refine (works_any wr).mono ?_
        rintro e v3 ⟨rfl, hb3⟩
        have HV3 := Lib.hid (Bt HB.out hb3)
        clear hb3
        go_wp2_with fail
        go_ret
        exact ⟨rfl, HV3.out⟩

theorem wireEnds_walk (W : World) : Calls Try.prog 10 #[] W fun e w' => e = .returned (.bool true) ∧ Below W.heap.size W w' := ends_walk W
end Go.Proofs.Ytodijebpoipeiaa
