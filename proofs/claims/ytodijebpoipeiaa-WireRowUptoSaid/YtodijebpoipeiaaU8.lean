/- The statement WireRow (where what comes in is small): its walk. -/
import Derived.Test.YtodijebpoipeiaaU7
namespace Go.Proofs.Ytodijebpoipeiaa
open Go.RowKit
set_option maxRecDepth 20000
set_option linter.unusedVariables false
set_option linter.unusedSimpArgs false

theorem bring3u (x : Int) : bringF x 3 = 0 ∨ bringF x 3 = 1 ∨ bringF x 3 = 2 := by
  have := bringF_lt x 3 (by omega)
  omega

set_option maxHeartbeats 4000000 in
theorem row_walk (W : World) (A : Option Addr) (c : Nat) (cl : List Cl) (hr : ClsRd W A c cl) (hsm : ∀ i (h : i < cl.length), cl[i].bs.length ≤ 50331648) :
    Calls Try.prog 3 #[.slice A cl.length c] W fun e w' => e = .returned (.bool true) ∧ Below W.heap.size W w' := by
  have hcl : cl.length ≤ 9223372036854775807 := Nat.le_trans hr.cap hr.most
  have hcl1 : cl.length ≤ c := hr.cap
  have HC := Lib.hid hr
  have HSM := Lib.hid hsm
  clear hr hsm
  go_enter Try.func3, Try.ntmps3
  go_wp2_with fail
  refine (write_any W).mono ?_
  rintro e w1 ⟨rfl, hw1, hb1⟩
  have HW1 := Lib.hid (And.intro hw1 hb1)
  clear hw1 hb1
  go_wp2_with fail
  refine (uwrite_any w1).mono ?_
  rintro e w2 ⟨rfl, hw2, hb2⟩
  obtain ⟨p, hp⟩ : ∃ p, p = W.heap.size + 1 := ⟨_, rfl⟩
  obtain ⟨u, hu⟩ : ∃ u, u = w1.heap.size := ⟨_, rfl⟩
  have H0 := Lib.hid (show Wt W w2 (fun i => i = W.heap.size ∨ i = W.heap.size + 1) (fun i => i = w1.heap.size) p u [] [] 0 from by
    subst hp hu
    refine ⟨Bt HW1.out.2 hb2, HW1.out.1.below hb2, hw2, fun i hi => by omega, fun i hi => by have := HW1.out.2.size; omega, fun i hi h2 => ?_⟩
    have := HW1.out.1.1 i hi
    omega)
  rw [← hp, ← hu]
  clear hp hu hw2 hb2 HW1
  go_wp2_with fail
  go_loopw [5] (fun i wr => ∃ (k : Nat) (xs : List Int) (n : Nat) (S1 S2 : Nat → Prop), k ≤ cl.length ∧ k ≤ 60 ∧ i = .int .i64 k ∧ xs.length ≤ 50331700 * k ∧ n ≤ 2 * k ∧ Byt xs ∧ Wt W wr S1 S2 p u xs xs n) (fun i _ => 60 - (intOf i).toNat)
  case atStart => exact ⟨0, [], 0, _, _, Nat.zero_le _, by omega, rfl, by simp, by simp, Byt.nil, H0.out⟩
  case round =>
    obtain ⟨k, xs, n, S1, S2, hk, hk6, rfl, hxl, hnl, hxb, ht⟩ := hrel
    have HT := Lib.hid ht
    have HXB := Lib.hid hxb
    clear ht hxb H0
    by_cases hlt : k < cl.length
    · by_cases h60 : k < 60
      · have hlt2 : (k : Int) < (cl.length : Int) := by omega
        have h602 : (k : Int) < 60 := by omega
        obtain ⟨g, o, rfl, hgW, hca⟩ := HC.out.at_ k hlt
        have hxs := HSM.out k hlt
        obtain ⟨x, hx⟩ : ∃ x, x = cl[k] := ⟨_, rfl⟩
        rw [← hx] at hca hxs
        obtain ⟨⟨x1, x2, x3, hbb, hbl, hbr⟩, c0, c1, c2, c3⟩ := hca
        have hbW := HT.out.hb
        have b0 := (hbW.cell (p := ⟨g, o + k * 4, none⟩) hgW).trans c0
        have b1 := (hbW.cell (p := ⟨g, o + k * 4 + 1, none⟩) hgW).trans c1
        have b2 := (hbW.cell (p := ⟨g, o + k * 4 + 2, none⟩) hgW).trans c2
        have b3 := (hbW.cell (p := ⟨g, o + k * 4 + 3, none⟩) hgW).trans c3
        have HBS := Lib.hid (And.intro hbb hbr)
        have HNS := Lib.hid (And.intro x2 x3)
        clear hx c0 c1 c2 c3 hbb hbr hbW x1 x2 x3
        go_wp2_with fail
        refine (copy_bytes _ _ x.bs _ (HBS.out.2.below (Ba HT.out.hb _) (fun i hi => hi)) (by omega)).mono ?_
        rintro e w2 ⟨A2, c2, rfl, hf2⟩
        have HX2 := Lib.hid (show Wx W w2 S1 S2 wr.heap.size #[.int .i64 x.what, .int .i64 x.n, .int .i64 x.size, .slice x.A x.bs.length x.c] A2 c2 x.bs from by
          have hsz := HT.out.hb.size
          refine ⟨(Blk.new wr _ _).later hf2.kept, ⟨fun h => by have := HT.out.l1 _ h; omega, fun h => by have := HT.out.l2 _ h; omega, hsz⟩, own_mod hf2.own (Mod.refl (fun _ => False) _) (fun _ _ h => h) (by simp; omega), fun i hi => ?_⟩
          have := own_ge hf2.own i hi
          simp at this
          exact ⟨fun h => by have := HT.out.l1 _ h; omega, fun h => by have := HT.out.l2 _ h; omega, by omega⟩)
        have HT2 := Lib.hid (HT.out.below (Bt (Ba (B0 wr) _) hf2.kept))
        have z0 : w2.cell? ⟨wr.heap.size, 0, none⟩ = some (.int .i64 x.what) := HX2.out.blk.cell 0
        have z1 : w2.cell? ⟨wr.heap.size, 1, none⟩ = some (.int .i64 x.n) := HX2.out.blk.cell 1
        have z2 : w2.cell? ⟨wr.heap.size, 2, none⟩ = some (.int .i64 x.size) := HX2.out.blk.cell 2
        have z3 : w2.cell? ⟨wr.heap.size, 3, none⟩ = some (.slice x.A x.bs.length x.c) := HX2.out.blk.cell 3
        obtain ⟨q, hq⟩ : ∃ q, q = bringF x.what 3 := ⟨_, rfl⟩
        have hq3 := bring3u x.what
        rw [← hq] at hq3
        have HQ := Lib.hid hq
        have lb : wr.heap.size < w2.heap.size := HX2.out.blk.lt
        clear hf2 b0 b1 b2 b3 hq
        rcases hq3 with rfl | rfl | rfl
        · go_wp2_with (go_at_call 14; refine (bring_any x.what 3 _ (by omega)).mono ?_; rintro e w' ⟨rfl, rfl⟩; rw [← HQ.out])
          refine (put_any S1 p xs x.n x.size w2 HT2.out.w1 HNS.out.1.2 (by omega)).mono ?_
          rintro e w3 hd
          obtain ⟨S1', ht3, hm3, hs3⟩ := HT2.out.did1 hd
          obtain ⟨rfl, _⟩ := hd
          have HT3 := Lib.hid ht3
          have HX3 := Lib.hid (HX2.out.did hm3 (fun i h => .inl h) hs3 (fun i h => .inl h))
          clear ht3 hm3 hs3 z0 z1 z2 z3
          have z1 : w3.cell? ⟨wr.heap.size, 1, none⟩ = some (.int .i64 x.n) := HX3.out.blk.cell 1
          have z2 : w3.cell? ⟨wr.heap.size, 2, none⟩ = some (.int .i64 x.size) := HX3.out.blk.cell 2
          have z3 : w3.cell? ⟨wr.heap.size, 3, none⟩ = some (.slice x.A x.bs.length x.c) := HX3.out.blk.cell 3
          have lb3 : wr.heap.size < w3.heap.size := HX3.out.blk.lt
          go_wp2_with fail
          refine (uput_any S2 u xs n x.n x.size w3 HT3.out.w2 (by omega) HNS.out.1.1 HNS.out.1.2).mono ?_
          rintro e w4 hd
          obtain ⟨S2', ht4, hm4, hs4⟩ := HT3.out.did2 hd
          obtain ⟨rfl, _⟩ := hd
          have HT4 := Lib.hid ht4
          have HX4 := Lib.hid (HX3.out.did hm4 (fun i h => .inr h) (fun i h => .inl h) hs4)
          clear ht4 hm4 hs4 z1 z2 z3
          have hyl : (putL xs x.n x.size).length ≤ 50331700 * (k + 1) := by have := putL_len xs x.n x.size; omega
          have hmn : putN n x.n x.size ≤ 2 * (k + 1) := by have := putN_le n x.n x.size; omega
          have hyb : Byt (putL xs x.n x.size) := putL_byt HXB.out _ _
          have HYB := Lib.hid hyb
          clear hyb
          generalize (putL xs x.n x.size) = ys at *
          generalize putN n x.n x.size = m at *
          generalize putE x.n x.size = E at *
          go_wp2_with fail
          refine (out_any S1' p ys w4 HT4.out.w1 (by omega)).mono ?_
          rintro e w5 ⟨A5, c5, rfl, hf5⟩
          have HT5 := Lib.hid (HT4.out.below hf5.kept)
          have HX5 := Lib.hid (HX4.out.below hf5.kept)
          have HO5 := Lib.hid hf5.own
          have GO5 := Lib.hid (fun i hi => own_ge hf5.own i hi)
          have LX4 := Lib.hid (fun i hi => own_lt HX4.out.row i hi)
          have z3 : w5.cell? ⟨wr.heap.size, 3, none⟩ = some (.slice x.A x.bs.length x.c) := HX5.out.blk.cell 3
          have lb5 : wr.heap.size < w5.heap.size := HX5.out.blk.lt
          have hEE : (E != E) = false := by simp
          clear hf5
          go_wp2_with fail
          refine (eq_bytes _ _ _ _ x.bs x.bs w5 (Rd.of_own HX5.out.row) (HBS.out.2.below HT5.out.hb (fun i hi => hi))).mono ?_
          rintro e w6 ⟨rfl, hw6⟩
          rw [eqB_self]
          have hb6 : Below w5.heap.size w5 w6 := by obtain ⟨n, rfl⟩ := hw6; exact BdN (B0 _) n
          have HT6 := Lib.hid (HT5.out.below hb6)
          have HX6 := Lib.hid (HX5.out.below hb6)
          have HO6 := Lib.hid (own_below HO5.out hb6)
          clear hw6 hb6 z3
          go_wp2_with fail
          refine (uout_any S2' u ys m w6 HT6.out.w2 (by omega) (by omega)).mono ?_
          rintro e w7 ⟨A7, c7, rfl, hf7⟩
          have HT7 := Lib.hid (HT6.out.below hf7.kept)
          have HX7 := Lib.hid (HX6.out.below hf7.kept)
          have HO7 := Lib.hid (own_below HO6.out hf7.kept)
          have HU7 := Lib.hid hf7.own
          clear hf7
          go_wp2_with fail
          refine (eq_bytes _ _ _ _ ys ys w7 (Rd.of_own HO7.out) (Rd.of_own HU7.out)).mono ?_
          rintro e w8 ⟨rfl, hw8⟩
          rw [eqB_self]
          have hb8 : Below w7.heap.size w7 w8 := by obtain ⟨n, rfl⟩ := hw8; exact BdN (B0 _) n
          have HT8 := Lib.hid (HT7.out.below hb8)
          have HX8 := Lib.hid (HX7.out.below hb8)
          have HO8 := Lib.hid (own_below HO7.out hb8)
          clear hw8 hb8
          go_wp2_with fail
          refine (spoil_row HX8.out.row HBS.out.1 (by omega)).mono ?_
          rintro e w9 ⟨rfl, hm9⟩
          have HT9 := Lib.hid (HT8.out.kept hm9 (fun i hi => own_ge HX8.out.row i hi) (fun i h1 hi => (HX8.out.nr i hi).1 h1) (fun i h2 hi => (HX8.out.nr i hi).2.1 h2))
          have HO9 := Lib.hid (own_mod HO8.out hm9 (fun i hi hi2 => by have := GO5.out i hi; have := LX4.out i hi2; omega) (Nat.le_refl _))
          clear hm9
          go_wp2_with fail
          refine (spoil_row HO9.out HYB.out (by omega)).mono ?_
          rintro e w10 ⟨rfl, hm10⟩
          have HT10 := Lib.hid (HT9.out.kept hm10 (fun i hi => Nat.le_trans HT4.out.hb.size (GO5.out i hi)) (fun i h1 hi => by have := HT4.out.l1 i h1; have := GO5.out i hi; omega) (fun i h2 hi => by have := HT4.out.l2 i h2; have := GO5.out i hi; omega))
          clear hm10
          go_wp2_with fail
          go_roundw
          case rel => exact ⟨k + 1, ys, m, S1', S2', by omega, by omega, by go_num, by omega, by omega, HYB.out, HT10.out⟩
          case measure => simp [intOf]; omega
        · go_wp2_with (go_at_call 14; refine (bring_any x.what 3 _ (by omega)).mono ?_; rintro e w' ⟨rfl, rfl⟩; rw [← HQ.out])
          refine (wbytes_any S1 _ p xs x.bs A2 c2 w2 HT2.out.w1 (Rd.of_own HX2.out.row) (fun i hi => own_lt HX2.out.row i hi) (by omega)).mono ?_
          rintro e w3 hd
          obtain ⟨S1', ht3, hm3, hs3⟩ := HT2.out.did1 hd
          obtain ⟨rfl, _⟩ := hd
          have HT3 := Lib.hid ht3
          have HX3 := Lib.hid (HX2.out.did hm3 (fun i h => .inl h) hs3 (fun i h => .inl h))
          clear ht3 hm3 hs3 z0 z1 z2 z3
          have z1 : w3.cell? ⟨wr.heap.size, 1, none⟩ = some (.int .i64 x.n) := HX3.out.blk.cell 1
          have z2 : w3.cell? ⟨wr.heap.size, 2, none⟩ = some (.int .i64 x.size) := HX3.out.blk.cell 2
          have z3 : w3.cell? ⟨wr.heap.size, 3, none⟩ = some (.slice x.A x.bs.length x.c) := HX3.out.blk.cell 3
          have lb3 : wr.heap.size < w3.heap.size := HX3.out.blk.lt
          go_wp2_with fail
          refine (uwbytes_any S2 _ u xs x.bs n x.A x.c w3 HT3.out.w2 (by omega) (HBS.out.2.below HT3.out.hb (fun i hi => hi)) (fun i hi => Nat.lt_of_lt_of_le hi HT3.out.hb.size) (by omega)).mono ?_
          rintro e w4 hd
          obtain ⟨S2', ht4, hm4, hs4⟩ := HT3.out.did2 hd
          obtain ⟨rfl, _⟩ := hd
          have HT4 := Lib.hid ht4
          have HX4 := Lib.hid (HX3.out.did hm4 (fun i h => .inr h) (fun i h => .inl h) hs4)
          clear ht4 hm4 hs4 z1 z2 z3
          have hyl : (xs ++ x.bs).length ≤ 50331700 * (k + 1) := by rw [List.length_append]; omega
          have hmn : (n + 1) ≤ 2 * (k + 1) := by omega
          have hyb : Byt (xs ++ x.bs) := HXB.out.append HBS.out.1
          have HYB := Lib.hid hyb
          clear hyb
          generalize (xs ++ x.bs) = ys at *
          generalize (n + 1) = m at *
          go_wp2_with fail
          refine (out_any S1' p ys w4 HT4.out.w1 (by omega)).mono ?_
          rintro e w5 ⟨A5, c5, rfl, hf5⟩
          have HT5 := Lib.hid (HT4.out.below hf5.kept)
          have HX5 := Lib.hid (HX4.out.below hf5.kept)
          have HO5 := Lib.hid hf5.own
          have GO5 := Lib.hid (fun i hi => own_ge hf5.own i hi)
          have LX4 := Lib.hid (fun i hi => own_lt HX4.out.row i hi)
          have z3 : w5.cell? ⟨wr.heap.size, 3, none⟩ = some (.slice x.A x.bs.length x.c) := HX5.out.blk.cell 3
          have lb5 : wr.heap.size < w5.heap.size := HX5.out.blk.lt
          clear hf5
          go_wp2_with fail
          refine (eq_bytes _ _ _ _ x.bs x.bs w5 (Rd.of_own HX5.out.row) (HBS.out.2.below HT5.out.hb (fun i hi => hi))).mono ?_
          rintro e w6 ⟨rfl, hw6⟩
          rw [eqB_self]
          have hb6 : Below w5.heap.size w5 w6 := by obtain ⟨n, rfl⟩ := hw6; exact BdN (B0 _) n
          have HT6 := Lib.hid (HT5.out.below hb6)
          have HX6 := Lib.hid (HX5.out.below hb6)
          have HO6 := Lib.hid (own_below HO5.out hb6)
          clear hw6 hb6 z3
          go_wp2_with fail
          refine (uout_any S2' u ys m w6 HT6.out.w2 (by omega) (by omega)).mono ?_
          rintro e w7 ⟨A7, c7, rfl, hf7⟩
          have HT7 := Lib.hid (HT6.out.below hf7.kept)
          have HX7 := Lib.hid (HX6.out.below hf7.kept)
          have HO7 := Lib.hid (own_below HO6.out hf7.kept)
          have HU7 := Lib.hid hf7.own
          clear hf7
          go_wp2_with fail
          refine (eq_bytes _ _ _ _ ys ys w7 (Rd.of_own HO7.out) (Rd.of_own HU7.out)).mono ?_
          rintro e w8 ⟨rfl, hw8⟩
          rw [eqB_self]
          have hb8 : Below w7.heap.size w7 w8 := by obtain ⟨n, rfl⟩ := hw8; exact BdN (B0 _) n
          have HT8 := Lib.hid (HT7.out.below hb8)
          have HX8 := Lib.hid (HX7.out.below hb8)
          have HO8 := Lib.hid (own_below HO7.out hb8)
          clear hw8 hb8
          go_wp2_with fail
          refine (spoil_row HX8.out.row HBS.out.1 (by omega)).mono ?_
          rintro e w9 ⟨rfl, hm9⟩
          have HT9 := Lib.hid (HT8.out.kept hm9 (fun i hi => own_ge HX8.out.row i hi) (fun i h1 hi => (HX8.out.nr i hi).1 h1) (fun i h2 hi => (HX8.out.nr i hi).2.1 h2))
          have HO9 := Lib.hid (own_mod HO8.out hm9 (fun i hi hi2 => by have := GO5.out i hi; have := LX4.out i hi2; omega) (Nat.le_refl _))
          clear hm9
          go_wp2_with fail
          refine (spoil_row HO9.out HYB.out (by omega)).mono ?_
          rintro e w10 ⟨rfl, hm10⟩
          have HT10 := Lib.hid (HT9.out.kept hm10 (fun i hi => Nat.le_trans HT4.out.hb.size (GO5.out i hi)) (fun i h1 hi => by have := HT4.out.l1 i h1; have := GO5.out i hi; omega) (fun i h2 hi => by have := HT4.out.l2 i h2; have := GO5.out i hi; omega))
          clear hm10
          go_wp2_with fail
          go_roundw
          case rel => exact ⟨k + 1, ys, m, S1', S2', by omega, by omega, by go_num, by omega, by omega, HYB.out, HT10.out⟩
          case measure => simp [intOf]; omega
        · go_wp2_with (go_at_call 14; refine (bring_any x.what 3 _ (by omega)).mono ?_; rintro e w' ⟨rfl, rfl⟩; rw [← HQ.out])
          refine (octets_any S1 _ p xs x.bs A2 c2 w2 HT2.out.w1 (Rd.of_own HX2.out.row) (fun i hi => ⟨own_lt HX2.out.row i hi, (HX2.out.nr i hi).1⟩) (by omega)).mono ?_
          rintro e w3 hd
          obtain ⟨S1', ht3, hm3, hs3⟩ := HT2.out.did1 hd
          obtain ⟨rfl, _⟩ := hd
          have HT3 := Lib.hid ht3
          have HX3 := Lib.hid (HX2.out.did hm3 (fun i h => .inl h) hs3 (fun i h => .inl h))
          clear ht3 hm3 hs3 z0 z1 z2 z3
          have z1 : w3.cell? ⟨wr.heap.size, 1, none⟩ = some (.int .i64 x.n) := HX3.out.blk.cell 1
          have z2 : w3.cell? ⟨wr.heap.size, 2, none⟩ = some (.int .i64 x.size) := HX3.out.blk.cell 2
          have z3 : w3.cell? ⟨wr.heap.size, 3, none⟩ = some (.slice x.A x.bs.length x.c) := HX3.out.blk.cell 3
          have lb3 : wr.heap.size < w3.heap.size := HX3.out.blk.lt
          go_wp2_with fail
          refine (uoctets_any' S2 _ u xs x.bs n x.A x.c w3 HT3.out.w2 (by omega) (HBS.out.2.below HT3.out.hb (fun i hi => hi)) (fun i hi => ⟨Nat.lt_of_lt_of_le hi HT3.out.hb.size, fun h => by have := HT3.out.g2 i h; omega⟩) (by omega)).mono ?_
          rintro e w4 hd
          obtain ⟨S2', ht4, hm4, hs4⟩ := HT3.out.did2 hd
          obtain ⟨rfl, _⟩ := hd
          have HT4 := Lib.hid ht4
          have HX4 := Lib.hid (HX3.out.did hm4 (fun i h => .inr h) (fun i h => .inl h) hs4)
          clear ht4 hm4 hs4 z1 z2 z3
          have hyl : (octL xs x.bs).length ≤ 50331700 * (k + 1) := by have := octL_len xs x.bs; omega
          have hmn : (if 65535 < x.bs.length then n else n + 2) ≤ 2 * (k + 1) := by split <;> omega
          have hyb : Byt (octL xs x.bs) := octL_byt HXB.out HBS.out.1
          have HYB := Lib.hid hyb
          clear hyb
          generalize (octL xs x.bs) = ys at *
          generalize (if 65535 < x.bs.length then n else n + 2) = m at *
          generalize octE x.bs = E at *
          go_wp2_with fail
          refine (out_any S1' p ys w4 HT4.out.w1 (by omega)).mono ?_
          rintro e w5 ⟨A5, c5, rfl, hf5⟩
          have HT5 := Lib.hid (HT4.out.below hf5.kept)
          have HX5 := Lib.hid (HX4.out.below hf5.kept)
          have HO5 := Lib.hid hf5.own
          have GO5 := Lib.hid (fun i hi => own_ge hf5.own i hi)
          have LX4 := Lib.hid (fun i hi => own_lt HX4.out.row i hi)
          have z3 : w5.cell? ⟨wr.heap.size, 3, none⟩ = some (.slice x.A x.bs.length x.c) := HX5.out.blk.cell 3
          have lb5 : wr.heap.size < w5.heap.size := HX5.out.blk.lt
          have hEE : (E != E) = false := by simp
          clear hf5
          go_wp2_with fail
          refine (eq_bytes _ _ _ _ x.bs x.bs w5 (Rd.of_own HX5.out.row) (HBS.out.2.below HT5.out.hb (fun i hi => hi))).mono ?_
          rintro e w6 ⟨rfl, hw6⟩
          rw [eqB_self]
          have hb6 : Below w5.heap.size w5 w6 := by obtain ⟨n, rfl⟩ := hw6; exact BdN (B0 _) n
          have HT6 := Lib.hid (HT5.out.below hb6)
          have HX6 := Lib.hid (HX5.out.below hb6)
          have HO6 := Lib.hid (own_below HO5.out hb6)
          clear hw6 hb6 z3
          go_wp2_with fail
          refine (uout_any S2' u ys m w6 HT6.out.w2 (by omega) (by omega)).mono ?_
          rintro e w7 ⟨A7, c7, rfl, hf7⟩
          have HT7 := Lib.hid (HT6.out.below hf7.kept)
          have HX7 := Lib.hid (HX6.out.below hf7.kept)
          have HO7 := Lib.hid (own_below HO6.out hf7.kept)
          have HU7 := Lib.hid hf7.own
          clear hf7
          go_wp2_with fail
          refine (eq_bytes _ _ _ _ ys ys w7 (Rd.of_own HO7.out) (Rd.of_own HU7.out)).mono ?_
          rintro e w8 ⟨rfl, hw8⟩
          rw [eqB_self]
          have hb8 : Below w7.heap.size w7 w8 := by obtain ⟨n, rfl⟩ := hw8; exact BdN (B0 _) n
          have HT8 := Lib.hid (HT7.out.below hb8)
          have HX8 := Lib.hid (HX7.out.below hb8)
          have HO8 := Lib.hid (own_below HO7.out hb8)
          clear hw8 hb8
          go_wp2_with fail
          refine (spoil_row HX8.out.row HBS.out.1 (by omega)).mono ?_
          rintro e w9 ⟨rfl, hm9⟩
          have HT9 := Lib.hid (HT8.out.kept hm9 (fun i hi => own_ge HX8.out.row i hi) (fun i h1 hi => (HX8.out.nr i hi).1 h1) (fun i h2 hi => (HX8.out.nr i hi).2.1 h2))
          have HO9 := Lib.hid (own_mod HO8.out hm9 (fun i hi hi2 => by have := GO5.out i hi; have := LX4.out i hi2; omega) (Nat.le_refl _))
          clear hm9
          go_wp2_with fail
          refine (spoil_row HO9.out HYB.out (by omega)).mono ?_
          rintro e w10 ⟨rfl, hm10⟩
          have HT10 := Lib.hid (HT9.out.kept hm10 (fun i hi => Nat.le_trans HT4.out.hb.size (GO5.out i hi)) (fun i h1 hi => by have := HT4.out.l1 i h1; have := GO5.out i hi; omega) (fun i h2 hi => by have := HT4.out.l2 i h2; have := GO5.out i hi; omega))
          clear hm10
          go_wp2_with fail
          go_roundw
          case rel => exact ⟨k + 1, ys, m, S1', S2', by omega, by omega, by go_num, by omega, by omega, HYB.out, HT10.out⟩
          case measure => simp [intOf]; omega
      · have h602 : ¬ (k : Int) < 60 := by omega
        have hlt2 : (k : Int) < (cl.length : Int) := by omega
        go_wp2_with fail
        refine (out_any S1 p xs _ HT.out.w1 (by omega)).mono ?_
        rintro e w5 ⟨A5, c5, rfl, hf5⟩
        have HT5 := Lib.hid (HT.out.below hf5.kept)
        have HO5 := Lib.hid hf5.own
        clear hf5
        go_wp2_with fail
        refine (uout_any S2 u xs n w5 HT5.out.w2 (by omega) (by omega)).mono ?_
        rintro e w6 ⟨A6, c6, rfl, hf6⟩
        have HT6 := Lib.hid (HT5.out.below hf6.kept)
        have HO6 := Lib.hid (own_below HO5.out hf6.kept)
        have HU6 := Lib.hid hf6.own
        clear hf6
        go_wp2_with fail
        refine (eq_bytes _ _ _ _ xs xs w6 (Rd.of_own HO6.out) (Rd.of_own HU6.out)).mono ?_
        rintro e w7 ⟨rfl, hw7⟩
        rw [eqB_self]
        have hb7 : Below w6.heap.size w6 w7 := by obtain ⟨n, rfl⟩ := hw7; exact BdN (B0 _) n
        have HB7 := Lib.hid (Bt HT6.out.hb hb7)
        clear hw7 hb7
        go_wp2_with fail
        refine (works_any w7).mono ?_
        rintro e w8 ⟨rfl, hb8⟩
        have HB8 := Lib.hid (Bt HB7.out hb8)
        clear hb8
        go_wp2_with fail
        go_ret
        exact ⟨rfl, HB8.out⟩
    · have hlt2 : ¬ (k : Int) < (cl.length : Int) := by omega
      go_wp2_with fail
      refine (out_any S1 p xs _ HT.out.w1 (by omega)).mono ?_
      rintro e w5 ⟨A5, c5, rfl, hf5⟩
      have HT5 := Lib.hid (HT.out.below hf5.kept)
      have HO5 := Lib.hid hf5.own
      clear hf5
      go_wp2_with fail
      refine (uout_any S2 u xs n w5 HT5.out.w2 (by omega) (by omega)).mono ?_
      rintro e w6 ⟨A6, c6, rfl, hf6⟩
      have HT6 := Lib.hid (HT5.out.below hf6.kept)
      have HO6 := Lib.hid (own_below HO5.out hf6.kept)
      have HU6 := Lib.hid hf6.own
      clear hf6
      go_wp2_with fail
      refine (eq_bytes _ _ _ _ xs xs w6 (Rd.of_own HO6.out) (Rd.of_own HU6.out)).mono ?_
      rintro e w7 ⟨rfl, hw7⟩
      rw [eqB_self]
      have hb7 : Below w6.heap.size w6 w7 := by obtain ⟨n, rfl⟩ := hw7; exact BdN (B0 _) n
      have HB7 := Lib.hid (Bt HT6.out.hb hb7)
      clear hw7 hb7
      go_wp2_with fail
      refine (works_any w7).mono ?_
      rintro e w8 ⟨rfl, hb8⟩
      have HB8 := Lib.hid (Bt HB7.out hb8)
      clear hb8
      go_wp2_with fail
      go_ret
      exact ⟨rfl, HB8.out⟩
end Go.Proofs.Ytodijebpoipeiaa
