/- O5a, O5b, O5c, O5d in one text. -/
import Derived.Test.YtnphnaggamfoiaaQO
import Derived.Test.YtnphnaggamfoiaaN2
namespace Go.Proofs.Ytnphnaggamfoiaa
open Go.RowKit
set_option maxRecDepth 20000
set_option linter.unusedVariables false
set_option linter.unusedSimpArgs false
section
set_option maxHeartbeats 8000000 in
theorem refcmd_k3 (T : Nat → Prop) (A : Option Addr) (c : Nat) (ys : List Int) (W : World) (hr : Rd W T 1 (.slice A ys.length c) ys.length (bts ys)) (hT : ∀ i, T i → i < W.heap.size) (hb : Byt ys) (hl : ys.length ≤ 140737488351232) (hkd : vKd ys = 3) :
    Calls Try.prog 25 #[.slice A ys.length c] W (CmDid ys W) := by
  obtain ⟨z, hz⟩ : ∃ z, z = W.heap.size := ⟨_, rfl⟩
  obtain ⟨r, hrr⟩ : ∃ r, r = W.heap.size + 1 := ⟨_, rfl⟩
  obtain ⟨g, hg⟩ : ∃ g, g = W.heap.size + 1 + 1 := ⟨_, rfl⟩
  obtain ⟨wa, hwa⟩ : ∃ wa, wa = ((W.alloc (.cells zCo.L.toArray 36)).alloc (.cells #[.slice A ys.length c, .int .i64 0] 83)).alloc (.cells zCo.L.toArray 36) := ⟨_, rfl⟩
  have H := Lib.hid (show DcAt W wa T z r g ⟨ys, 0⟩ zCo by
    rw [hwa, hz, hrr, hg]
    have hbl := Ba (Ba (Ba (B0 W) (.cells zCo.L.toArray 36)) (.cells #[.slice A ys.length c, .int .i64 0] 83)) (.cells zCo.L.toArray 36)
    exact ⟨⟨fun i hi => Nat.lt_of_lt_of_le (hT i hi) hbl.size, fun h => by have := hT _ h; omega, hb, hl, A, c, (Blk.new1 W _ _ _).alloc _, hr.below hbl hT⟩, Blk.new2 W _ _ _ _, ((Blk.new W _ _).alloc _).alloc _, hbl, fun h => by have := hT _ h; omega, fun h => by have := hT _ h; omega, by omega, by omega, by omega, by omega, by omega, by omega⟩)
  have HWA := Lib.hid hwa
  have HZQ := Lib.hid hz
  have HRR := Lib.hid hrr
  have HG := Lib.hid hg
  have HKD := Lib.hid hkd
  have HVA : Hid (((v2 ys).nx 1).fail false 4 = vA ys) := Lib.hid (by unfold vA; rw [hkd]; rfl)
  clear hr hT hb hl hz hrr hg hwa hkd
  go_enter Try.func25, Try.ntmps25
  go_wp2_with fail
  change Calls _ _ _ (((W.alloc (.cells zCo.L.toArray 36)).alloc (.cells #[.slice A ys.length c, .int .i64 0] 83)).alloc (.cells zCo.L.toArray 36)) _
  rw [← HG.out, ← HRR.out, ← HZQ.out, ← HWA.out]
  obtain ⟨cs, hcs⟩ : ∃ x, x = (⟨ys, 0⟩ : St).num 1 := ⟨_, rfl⟩
  obtain ⟨cq, hcq⟩ : ∃ x, x = (v1 ys).num 7 := ⟨_, rfl⟩
  have HCS := Lib.hid hcs
  have HCQ := Lib.hid hcq
  clear hcs hcq
  refine (dget_any T r 1 ⟨ys, 0⟩ wa H.out.1 (.inl rfl)).mono ?_
  rw [← HCS.out]
  rintro e w1 ⟨rfl, hd⟩
  have HX := Lib.hid (H.out.read hd)
  clear hd
  have HFc := HX.out.2.1
  have x0 : w1.cell? ⟨g, 0, none⟩ = some (.int .i64 0) := HFc.cell 0
  have fx0 := HFc.frozen 0
  have lg := HFc.lt
  clear HFc
  go_wp2_with fail
  clear lg x0 fx0
  obtain ⟨wb, hwn⟩ : ∃ u, u = w1.setCell ⟨g, 0, none⟩ (.int .i64 cs) := ⟨_, rfl⟩
  replace H := Lib.hid (show DcAt W wb T z r g (v1 ys) ⟨cs, 0, ⟨0, 0, z32, 0, ByteArray.empty, 0⟩⟩ by rw [hwn]; exact HX.out.set (set_s 0 0 0 0 0 z32 ByteArray.empty 0 cs))
  rw [← hwn]
  clear hwn HX
  refine (dget_any T r 7 (v1 ys) wb H.out.1 (.inr (.inr rfl))).mono ?_
  rw [← HCQ.out]
  rintro e w2 ⟨rfl, hd⟩
  have HX := Lib.hid (H.out.read hd)
  clear hd
  have HFc := HX.out.2.1
  have x1 : w2.cell? ⟨g, 1, none⟩ = some (.int .i64 0) := HFc.cell 1
  have fx1 := HFc.frozen 1
  have lg := HFc.lt
  clear HFc
  go_wp2_with fail
  clear lg x1 fx1
  obtain ⟨wc, hwn⟩ : ∃ u, u = w2.setCell ⟨g, 1, none⟩ (.int .i64 cq) := ⟨_, rfl⟩
  replace H := Lib.hid (show DcAt W wc T z r g (v2 ys) ⟨cs, cq, ⟨0, 0, z32, 0, ByteArray.empty, 0⟩⟩ by rw [hwn]; exact HX.out.set (set_q cs 0 0 0 0 z32 ByteArray.empty 0 cq))
  rw [← hwn]
  clear hwn HX
  refine (dget_any T r 1 (v2 ys) wc H.out.1 (.inl rfl)).mono ?_
  rw [show (v2 ys).num 1 = 3 from HKD.out]
  rintro e w3 ⟨rfl, hd⟩
  have HX := Lib.hid (H.out.read hd)
  clear hd
  have HFc := HX.out.2.1
  have x2 : w3.cell? ⟨g, 2, none⟩ = some (.int .i64 0) := HFc.cell 2
  have fx2 := HFc.frozen 2
  have lg := HFc.lt
  clear HFc
  go_wp2_with fail
  clear lg x2 fx2
  obtain ⟨wd, hwn⟩ : ∃ u, u = w3.setCell ⟨g, 2, none⟩ (.int .i64 3) := ⟨_, rfl⟩
  replace H := Lib.hid (show DcAt W wd T z r g ((v2 ys).nx 1) ⟨cs, cq, ⟨3, 0, z32, 0, ByteArray.empty, 0⟩⟩ by rw [hwn]; exact HX.out.set (set_kd cs cq 0 0 0 z32 ByteArray.empty 0 (3)))
  rw [← hwn]
  clear hwn HX
  refine (dbad_any T r false 4 ((v2 ys).nx 1) wd H.out.1).mono ?_
  rintro e w4 ⟨rfl, hd⟩
  have HX := Lib.hid (H.out.read hd)
  rw [HVA.out] at HX
  clear hd
  have HFc := HX.out.2.1
  have x2 : w4.cell? ⟨g, 2, none⟩ = some (.int .i64 3) := HFc.cell 2
  have lg := HFc.lt
  clear HFc
  go_wp2_with fail
  clear lg x2 
  replace H := HX
  clear HX
  obtain ⟨nd, hnd0⟩ : ∃ nd, nd = (vA ys).num 1 := ⟨_, rfl⟩
  have hnd := Lib.hid hnd0
  clear hnd0
  refine (dget_any T r 1 (vA ys) w4 H.out.1 (.inl rfl)).mono ?_
  rw [← hnd.out]
  rintro e w5 ⟨rfl, hd⟩
  have HX := Lib.hid (H.out.read hd)
  clear hd
  have HFc := HX.out.2.1
  have x2 : w5.cell? ⟨g, 2, none⟩ = some (.int .i64 3) := HFc.cell 2
  have x3 : w5.cell? ⟨g, 3, none⟩ = some (.int .i64 0) := HFc.cell 3
  have fx3 := HFc.frozen 3
  have lg := HFc.lt
  clear HFc
  go_upto_region 20 with fail
  clear lg x2 x3 fx3
  obtain ⟨w6, hwn⟩ : ∃ u, u = w5.setCell ⟨g, 3, none⟩ (.int .i64 nd) := ⟨_, rfl⟩
  replace H := Lib.hid (show DcAt W w6 T z r g ((vA ys).nx 1) ⟨cs, cq, ⟨3, nd, z32, 0, ByteArray.empty, 0⟩⟩ by rw [hwn]; exact HX.out.set (set_nd cs cq 3 0 0 z32 ByteArray.empty 0 nd))
  rw [← hwn]
  clear hwn HX
  obtain ⟨co, hco⟩ : ∃ co, co = vC ys := ⟨_, rfl⟩
  have hcc : (⟨cs, cq, ⟨3, nd, z32, 0, ByteArray.empty, 0⟩⟩ : Co) = co := by rw [hco]; unfold vC rop; rw [HKD.out, HCS.out, HCQ.out, hnd.out]; rfl
  rw [hcc, show (vA ys).nx 1 = vB ys from by unfold vB ropS; rw [HKD.out]; rfl] at H
  have HCO := Lib.hid hco
  have HK := Lib.hid (show co.o.ks.length = 32 by rw [hco]; exact rop_ks _ _)
  have HFc := H.out.2.1
  clear hco hcc HFc
  clear hnd
  obtain ⟨n, hn⟩ : ∃ n, n = (vB ys).l.length := ⟨_, rfl⟩
  have HN := Lib.hid hn
  obtain ⟨bad, hbad⟩ : ∃ b, b = (decide (0 < (n : Int)) || !(cmB co)) := ⟨_, rfl⟩
  have HBAD := Lib.hid (show (vB ys).fail bad 4 = vZ ys by rw [hbad, hn, HCO.out]; rfl)
  obtain ⟨hdr, _⟩ := H.out
  obtain ⟨_, _, _, hnl, A6, c6, hb6, hr6⟩ := hdr
  obtain ⟨b0, b1, f0, f1⟩ := blk2 hb6
  have hcap := hr6.cap
  unfold maxLen at hcap
  obtain ⟨_, hc1, hc2⟩ := hcap
  have lrb := hb6.lt
  rw [← hn] at b0 hnl hc1
  clear hb6 hr6 hn
  by_cases hpos : 0 < n
  · have hn2 : (0 : Int) < (n : Int) := by omega
    have eb : bad = true := by rw [hbad, decide_eq_true hn2]; rfl
    clear hbad
    rw [eb] at HBAD
    go_wp2_with fail
    clear b0 b1 f0 f1 lrb
    refine (dbad_any T r true 4 (vB ys) _ H.out.1).mono ?_
    rintro e w8 ⟨rfl, hd⟩
    replace H := Lib.hid (H.out.read hd)
    rw [HBAD.out] at H
    clear hd
    obtain ⟨hdr, hbc, hbz, hbw, _, _, _, hzr, _, hWz, _, _⟩ := H.out
    obtain ⟨_, _, _, _, A8, c8, hb8, _⟩ := hdr
    obtain ⟨b0, b1, f0, f1⟩ := blk2 hb8
    have lrb := hb8.lt
    have HC := Lib.hid hbc
    have HZ := Lib.hid hbz
    have HB := Lib.hid hbw
    have HWZ := Lib.hid hWz
    obtain ⟨E, hE⟩ : ∃ E, E = (vZ ys).e := ⟨_, rfl⟩
    have HE := Lib.hid hE
    rw [← hE] at b1
    clear hb8 hE hbc hbz hbw hWz
    by_cases h0 : E = 0
    · subst h0
      go_wp2_with (first | (refine step_load36 rfl (.tmp 5) rfl g rfl co HK.out (blk_range HC.out) ?_) | (refine step_store36 rfl (.tmp 2) (.tmp 105) rfl z rfl co HK.out rfl _ HZ.out (by simp [Co.len (c := zCo) z32_len]) ?_; intro w9 hb9 hm9 hs9; have HB9 := Lib.hid hb9; have HM9 := Lib.hid hm9; clear hb9 hm9 hs9) | fail)
      refine bodyPost_ret (v := .tuple #[co.v, .int .i64 0]) (by simp [results, Try.results25, asAddr, load36v HB9.out HK.out]) rfl ?_
      exact ⟨co, by rw [← HE.out], HK.out, HB.out.trans (HM9.out.below HB.out.size (fun i hi => by subst hi; exact HWZ.out)), .inl ⟨HE.out.symm, HCO.out⟩⟩
    · have hq : (E != 0) = true := by simpa using h0
      have hi := info36
      have hu := Try.underlying36
      have hth := there_of_blk HZ.out (o := 0) (n := 39) (by simp [Co.len (c := zCo) z32_len])
      have hne : r ≠ z := fun e => hzr e.symm
      have hh1 : zCo.L.toArray.all (·.oneCell') = true := all_one (l := zCo.L) zCo_one
      go_wp2_with fail
      refine wp_region_held_drew (S := (fun w' => w'.cell? ⟨r, 1, none⟩ = some (.int .i64 E))) (by kernel_rfl) (b1) (fun hHeld => ?_)
      refine wpAnyH_take (i := 0) (v := ?_) rfl (by kernel_rfl) (by kernel_rfl) (by kernel_rfl) (fun _ _ _ h => h) (Or.inl ⟨by kernel_rfl, ?_⟩) (by assumption) ?_
      rotate_left 1
      · (intro w hSw; (try dsimp only at hSw); go_simp; try with_reducible rfl)
      try simp only [Act.put, List.getElem_toArray, List.getElem_cons_succ, List.getElem_cons_zero, List.setIfInBounds_toArray, List.set_cons_zero, List.set_cons_succ]
      refine wpAnyH_take (i := 1) (v := ?_) rfl (by kernel_rfl) (by kernel_rfl) (by kernel_rfl) (fun _ _ _ h => h) (Or.inl ⟨by kernel_rfl, ?_⟩) (by assumption) ?_
      rotate_left 1
      · (intro w hSw; (try dsimp only at hSw); go_simp; try with_reducible rfl)
      try simp only [Act.put, List.getElem_toArray, List.getElem_cons_succ, List.getElem_cons_zero, List.setIfInBounds_toArray, List.set_cons_zero, List.set_cons_succ]
      refine wpAnyH_take (i := 2) (v := ?_) rfl (by kernel_rfl) (by kernel_rfl) (by kernel_rfl) (fun _ _ _ h => h) (Or.inl ⟨by kernel_rfl, ?_⟩) (by assumption) ?_
      rotate_left 1
      · (intro w hSw; (try dsimp only at hSw); go_simp; try with_reducible rfl)
      try simp only [Act.put, List.getElem_toArray, List.getElem_cons_succ, List.getElem_cons_zero, List.setIfInBounds_toArray, List.set_cons_zero, List.set_cons_succ]
      refine wpAnyH_take (i := 3) (v := ?_) rfl (by kernel_rfl) (by kernel_rfl) (by kernel_rfl) (fun _ _ _ h => h) (Or.inl ⟨by kernel_rfl, ?_⟩) (by assumption) ?_
      rotate_left 1
      · (intro w hSw; (try dsimp only at hSw); go_simp; try with_reducible rfl)
      try simp only [Act.put, List.getElem_toArray, List.getElem_cons_succ, List.getElem_cons_zero, List.setIfInBounds_toArray, List.set_cons_zero, List.set_cons_succ]
      refine wpAnyH_take (i := 4) (v := ?_) rfl (by kernel_rfl) (by kernel_rfl) (by kernel_rfl) (fun _ _ _ h => h) (Or.inl ⟨by kernel_rfl, ?_⟩) (by assumption) ?_
      rotate_left 1
      · (intro w hSw; (try dsimp only at hSw); go_simp; try with_reducible rfl)
      try simp only [Act.put, List.getElem_toArray, List.getElem_cons_succ, List.getElem_cons_zero, List.setIfInBounds_toArray, List.set_cons_zero, List.set_cons_succ]
      refine wpAnyH_ready (rs := [5]) (by kernel_rfl) (by simp) ?_
      refine AllReadyH.cons rfl (fun K hK => ?_) AllReadyH.nil
      refine wp_store_row 36 (.tmp 2) (.tmp 100) rfl z zCo.L.toArray rfl rfl 36 zCo.L.toArray HZ.out.drew (by rw [info36]; rfl) rfl hh1 ?_
      have HN9 := Lib.hid (show Blk (w8.drew.setRow z zCo.L.toArray) z 36 zCo.L.toArray from HZ.out.drew.setRow _)
      have HM9 := Lib.hid (show Mod (fun j => j = z) w8.drew (w8.drew.setRow z zCo.L.toArray) from (Mod.refl (fun j => j = z) w8.drew).setRow (.inl rfl) _)
      refine hK.out _ _ ((HM9.out.cell (p := ⟨r, 1, none⟩) (show w8.drew.cell? ⟨r, 1, none⟩ = some (.int .i64 E) from b1) hne)) (fun hHeld => ?_)
      clear hK K
      try simp only [Act.put, List.getElem_toArray, List.getElem_cons_succ, List.getElem_cons_zero, List.setIfInBounds_toArray, List.set_cons_zero, List.set_cons_succ]
      refine wpAnyH_take (i := 6) (v := ?_) rfl (by kernel_rfl) (by kernel_rfl) (by kernel_rfl) (fun _ _ _ h => h) (Or.inl ⟨by kernel_rfl, ?_⟩) (by assumption) ?_
      rotate_left 1
      · (intro w hSw; (try dsimp only at hSw); go_simp; try with_reducible rfl)
      try simp only [Act.put, List.getElem_toArray, List.getElem_cons_succ, List.getElem_cons_zero, List.setIfInBounds_toArray, List.set_cons_zero, List.set_cons_succ]
      refine wpAnyH_done (by kernel_rfl) ?_ _
      go_wp2_with fail
      refine bodyPost_ret (v := .tuple #[zCo.v, .int .i64 E]) (by simp [results, Try.results25, asAddr, load36v HN9.out (show zCo.o.ks.length = 32 from z32_len)]) rfl ?_
      exact ⟨zCo, by rw [← HE.out], z32_len, (Bd HB.out).trans (HM9.out.below (Bd HB.out).size (fun i hi => by subst hi; exact HWZ.out)), .inr ⟨by rw [← HE.out]; exact h0, rfl⟩⟩

  · have hn0 : n = 0 := by omega
    subst hn0
    obtain ⟨cm, hcm⟩ : ∃ cm, cm = cmB co := ⟨_, rfl⟩
    have eb : bad = !cm := by rw [hbad, decide_eq_false (by omega), ← hcm]; rfl
    have HCM := Lib.hid hcm
    clear hbad hcm
    rw [eb] at HBAD
    have HC6 := Lib.hid H.out.2.1
    go_wp2_with (first | (refine step_load36 (by first | rfl | simp [Region.wanted, yielded]) (.tmp 5) rfl g rfl co HK.out (blk_range HC6.out) ?_) | fail)
    refine (refmay_any co _ HK.out).mono ?_
    rw [← HCM.out]
    rintro e w7b ⟨rfl, hbm⟩
    replace H := Lib.hid (H.out.later hbm)
    clear hbm b0 b1 f0 f1 lrb HC6
    go_wp2_with fail
    refine (dbad_any T r (!cm) 4 (vB ys) _ H.out.1).mono ?_
    rintro e w8 ⟨rfl, hd⟩
    replace H := Lib.hid (H.out.read hd)
    rw [HBAD.out] at H
    clear hd
    obtain ⟨hdr, hbc, hbz, hbw, _, _, _, hzr, _, hWz, _, _⟩ := H.out
    obtain ⟨_, _, _, _, A8, c8, hb8, _⟩ := hdr
    obtain ⟨b0, b1, f0, f1⟩ := blk2 hb8
    have lrb := hb8.lt
    have HC := Lib.hid hbc
    have HZ := Lib.hid hbz
    have HB := Lib.hid hbw
    have HWZ := Lib.hid hWz
    obtain ⟨E, hE⟩ : ∃ E, E = (vZ ys).e := ⟨_, rfl⟩
    have HE := Lib.hid hE
    rw [← hE] at b1
    clear hb8 hE hbc hbz hbw hWz
    by_cases h0 : E = 0
    · subst h0
      go_wp2_with (first | (refine step_load36 rfl (.tmp 5) rfl g rfl co HK.out (blk_range HC.out) ?_) | (refine step_store36 rfl (.tmp 2) (.tmp 105) rfl z rfl co HK.out rfl _ HZ.out (by simp [Co.len (c := zCo) z32_len]) ?_; intro w9 hb9 hm9 hs9; have HB9 := Lib.hid hb9; have HM9 := Lib.hid hm9; clear hb9 hm9 hs9) | fail)
      refine bodyPost_ret (v := .tuple #[co.v, .int .i64 0]) (by simp [results, Try.results25, asAddr, load36v HB9.out HK.out]) rfl ?_
      exact ⟨co, by rw [← HE.out], HK.out, HB.out.trans (HM9.out.below HB.out.size (fun i hi => by subst hi; exact HWZ.out)), .inl ⟨HE.out.symm, HCO.out⟩⟩
    · have hq : (E != 0) = true := by simpa using h0
      have hi := info36
      have hu := Try.underlying36
      have hth := there_of_blk HZ.out (o := 0) (n := 39) (by simp [Co.len (c := zCo) z32_len])
      have hne : r ≠ z := fun e => hzr e.symm
      have hh1 : zCo.L.toArray.all (·.oneCell') = true := all_one (l := zCo.L) zCo_one
      go_wp2_with fail
      refine wp_region_held_drew (S := (fun w' => w'.cell? ⟨r, 1, none⟩ = some (.int .i64 E))) (by kernel_rfl) (b1) (fun hHeld => ?_)
      refine wpAnyH_take (i := 0) (v := ?_) rfl (by kernel_rfl) (by kernel_rfl) (by kernel_rfl) (fun _ _ _ h => h) (Or.inl ⟨by kernel_rfl, ?_⟩) (by assumption) ?_
      rotate_left 1
      · (intro w hSw; (try dsimp only at hSw); go_simp; try with_reducible rfl)
      try simp only [Act.put, List.getElem_toArray, List.getElem_cons_succ, List.getElem_cons_zero, List.setIfInBounds_toArray, List.set_cons_zero, List.set_cons_succ]
      refine wpAnyH_take (i := 1) (v := ?_) rfl (by kernel_rfl) (by kernel_rfl) (by kernel_rfl) (fun _ _ _ h => h) (Or.inl ⟨by kernel_rfl, ?_⟩) (by assumption) ?_
      rotate_left 1
      · (intro w hSw; (try dsimp only at hSw); go_simp; try with_reducible rfl)
      try simp only [Act.put, List.getElem_toArray, List.getElem_cons_succ, List.getElem_cons_zero, List.setIfInBounds_toArray, List.set_cons_zero, List.set_cons_succ]
      refine wpAnyH_take (i := 2) (v := ?_) rfl (by kernel_rfl) (by kernel_rfl) (by kernel_rfl) (fun _ _ _ h => h) (Or.inl ⟨by kernel_rfl, ?_⟩) (by assumption) ?_
      rotate_left 1
      · (intro w hSw; (try dsimp only at hSw); go_simp; try with_reducible rfl)
      try simp only [Act.put, List.getElem_toArray, List.getElem_cons_succ, List.getElem_cons_zero, List.setIfInBounds_toArray, List.set_cons_zero, List.set_cons_succ]
      refine wpAnyH_take (i := 3) (v := ?_) rfl (by kernel_rfl) (by kernel_rfl) (by kernel_rfl) (fun _ _ _ h => h) (Or.inl ⟨by kernel_rfl, ?_⟩) (by assumption) ?_
      rotate_left 1
      · (intro w hSw; (try dsimp only at hSw); go_simp; try with_reducible rfl)
      try simp only [Act.put, List.getElem_toArray, List.getElem_cons_succ, List.getElem_cons_zero, List.setIfInBounds_toArray, List.set_cons_zero, List.set_cons_succ]
      refine wpAnyH_take (i := 4) (v := ?_) rfl (by kernel_rfl) (by kernel_rfl) (by kernel_rfl) (fun _ _ _ h => h) (Or.inl ⟨by kernel_rfl, ?_⟩) (by assumption) ?_
      rotate_left 1
      · (intro w hSw; (try dsimp only at hSw); go_simp; try with_reducible rfl)
      try simp only [Act.put, List.getElem_toArray, List.getElem_cons_succ, List.getElem_cons_zero, List.setIfInBounds_toArray, List.set_cons_zero, List.set_cons_succ]
      refine wpAnyH_ready (rs := [5]) (by kernel_rfl) (by simp) ?_
      refine AllReadyH.cons rfl (fun K hK => ?_) AllReadyH.nil
      refine wp_store_row 36 (.tmp 2) (.tmp 100) rfl z zCo.L.toArray rfl rfl 36 zCo.L.toArray HZ.out.drew (by rw [info36]; rfl) rfl hh1 ?_
      have HN9 := Lib.hid (show Blk (w8.drew.setRow z zCo.L.toArray) z 36 zCo.L.toArray from HZ.out.drew.setRow _)
      have HM9 := Lib.hid (show Mod (fun j => j = z) w8.drew (w8.drew.setRow z zCo.L.toArray) from (Mod.refl (fun j => j = z) w8.drew).setRow (.inl rfl) _)
      refine hK.out _ _ ((HM9.out.cell (p := ⟨r, 1, none⟩) (show w8.drew.cell? ⟨r, 1, none⟩ = some (.int .i64 E) from b1) hne)) (fun hHeld => ?_)
      clear hK K
      try simp only [Act.put, List.getElem_toArray, List.getElem_cons_succ, List.getElem_cons_zero, List.setIfInBounds_toArray, List.set_cons_zero, List.set_cons_succ]
      refine wpAnyH_take (i := 6) (v := ?_) rfl (by kernel_rfl) (by kernel_rfl) (by kernel_rfl) (fun _ _ _ h => h) (Or.inl ⟨by kernel_rfl, ?_⟩) (by assumption) ?_
      rotate_left 1
      · (intro w hSw; (try dsimp only at hSw); go_simp; try with_reducible rfl)
      try simp only [Act.put, List.getElem_toArray, List.getElem_cons_succ, List.getElem_cons_zero, List.setIfInBounds_toArray, List.set_cons_zero, List.set_cons_succ]
      refine wpAnyH_done (by kernel_rfl) ?_ _
      go_wp2_with fail
      refine bodyPost_ret (v := .tuple #[zCo.v, .int .i64 E]) (by simp [results, Try.results25, asAddr, load36v HN9.out (show zCo.o.ks.length = 32 from z32_len)]) rfl ?_
      exact ⟨zCo, by rw [← HE.out], z32_len, (Bd HB.out).trans (HM9.out.below (Bd HB.out).size (fun i hi => by subst hi; exact HWZ.out)), .inr ⟨by rw [← HE.out]; exact h0, rfl⟩⟩
end

section
set_option maxHeartbeats 8000000 in
theorem refcmd_k4 (T : Nat → Prop) (A : Option Addr) (c : Nat) (ys : List Int) (W : World) (hr : Rd W T 1 (.slice A ys.length c) ys.length (bts ys)) (hT : ∀ i, T i → i < W.heap.size) (hb : Byt ys) (hl : ys.length ≤ 140737488351232) (hkd : vKd ys = 4) :
    Calls Try.prog 25 #[.slice A ys.length c] W (CmDid ys W) := by
  obtain ⟨z, hz⟩ : ∃ z, z = W.heap.size := ⟨_, rfl⟩
  obtain ⟨r, hrr⟩ : ∃ r, r = W.heap.size + 1 := ⟨_, rfl⟩
  obtain ⟨g, hg⟩ : ∃ g, g = W.heap.size + 1 + 1 := ⟨_, rfl⟩
  obtain ⟨wa, hwa⟩ : ∃ wa, wa = ((W.alloc (.cells zCo.L.toArray 36)).alloc (.cells #[.slice A ys.length c, .int .i64 0] 83)).alloc (.cells zCo.L.toArray 36) := ⟨_, rfl⟩
  have H := Lib.hid (show DcAt W wa T z r g ⟨ys, 0⟩ zCo by
    rw [hwa, hz, hrr, hg]
    have hbl := Ba (Ba (Ba (B0 W) (.cells zCo.L.toArray 36)) (.cells #[.slice A ys.length c, .int .i64 0] 83)) (.cells zCo.L.toArray 36)
    exact ⟨⟨fun i hi => Nat.lt_of_lt_of_le (hT i hi) hbl.size, fun h => by have := hT _ h; omega, hb, hl, A, c, (Blk.new1 W _ _ _).alloc _, hr.below hbl hT⟩, Blk.new2 W _ _ _ _, ((Blk.new W _ _).alloc _).alloc _, hbl, fun h => by have := hT _ h; omega, fun h => by have := hT _ h; omega, by omega, by omega, by omega, by omega, by omega, by omega⟩)
  have HWA := Lib.hid hwa
  have HZQ := Lib.hid hz
  have HRR := Lib.hid hrr
  have HG := Lib.hid hg
  have HKD := Lib.hid hkd
  have HVA : Hid (((v2 ys).nx 1).fail false 4 = vA ys) := Lib.hid (by unfold vA; rw [hkd]; rfl)
  clear hr hT hb hl hz hrr hg hwa hkd
  go_enter Try.func25, Try.ntmps25
  go_wp2_with fail
  change Calls _ _ _ (((W.alloc (.cells zCo.L.toArray 36)).alloc (.cells #[.slice A ys.length c, .int .i64 0] 83)).alloc (.cells zCo.L.toArray 36)) _
  rw [← HG.out, ← HRR.out, ← HZQ.out, ← HWA.out]
  obtain ⟨cs, hcs⟩ : ∃ x, x = (⟨ys, 0⟩ : St).num 1 := ⟨_, rfl⟩
  obtain ⟨cq, hcq⟩ : ∃ x, x = (v1 ys).num 7 := ⟨_, rfl⟩
  have HCS := Lib.hid hcs
  have HCQ := Lib.hid hcq
  clear hcs hcq
  refine (dget_any T r 1 ⟨ys, 0⟩ wa H.out.1 (.inl rfl)).mono ?_
  rw [← HCS.out]
  rintro e w1 ⟨rfl, hd⟩
  have HX := Lib.hid (H.out.read hd)
  clear hd
  have HFc := HX.out.2.1
  have x0 : w1.cell? ⟨g, 0, none⟩ = some (.int .i64 0) := HFc.cell 0
  have fx0 := HFc.frozen 0
  have lg := HFc.lt
  clear HFc
  go_wp2_with fail
  clear lg x0 fx0
  obtain ⟨wb, hwn⟩ : ∃ u, u = w1.setCell ⟨g, 0, none⟩ (.int .i64 cs) := ⟨_, rfl⟩
  replace H := Lib.hid (show DcAt W wb T z r g (v1 ys) ⟨cs, 0, ⟨0, 0, z32, 0, ByteArray.empty, 0⟩⟩ by rw [hwn]; exact HX.out.set (set_s 0 0 0 0 0 z32 ByteArray.empty 0 cs))
  rw [← hwn]
  clear hwn HX
  refine (dget_any T r 7 (v1 ys) wb H.out.1 (.inr (.inr rfl))).mono ?_
  rw [← HCQ.out]
  rintro e w2 ⟨rfl, hd⟩
  have HX := Lib.hid (H.out.read hd)
  clear hd
  have HFc := HX.out.2.1
  have x1 : w2.cell? ⟨g, 1, none⟩ = some (.int .i64 0) := HFc.cell 1
  have fx1 := HFc.frozen 1
  have lg := HFc.lt
  clear HFc
  go_wp2_with fail
  clear lg x1 fx1
  obtain ⟨wc, hwn⟩ : ∃ u, u = w2.setCell ⟨g, 1, none⟩ (.int .i64 cq) := ⟨_, rfl⟩
  replace H := Lib.hid (show DcAt W wc T z r g (v2 ys) ⟨cs, cq, ⟨0, 0, z32, 0, ByteArray.empty, 0⟩⟩ by rw [hwn]; exact HX.out.set (set_q cs 0 0 0 0 z32 ByteArray.empty 0 cq))
  rw [← hwn]
  clear hwn HX
  refine (dget_any T r 1 (v2 ys) wc H.out.1 (.inl rfl)).mono ?_
  rw [show (v2 ys).num 1 = 4 from HKD.out]
  rintro e w3 ⟨rfl, hd⟩
  have HX := Lib.hid (H.out.read hd)
  clear hd
  have HFc := HX.out.2.1
  have x2 : w3.cell? ⟨g, 2, none⟩ = some (.int .i64 0) := HFc.cell 2
  have fx2 := HFc.frozen 2
  have lg := HFc.lt
  clear HFc
  go_wp2_with fail
  clear lg x2 fx2
  obtain ⟨wd, hwn⟩ : ∃ u, u = w3.setCell ⟨g, 2, none⟩ (.int .i64 4) := ⟨_, rfl⟩
  replace H := Lib.hid (show DcAt W wd T z r g ((v2 ys).nx 1) ⟨cs, cq, ⟨4, 0, z32, 0, ByteArray.empty, 0⟩⟩ by rw [hwn]; exact HX.out.set (set_kd cs cq 0 0 0 z32 ByteArray.empty 0 (4)))
  rw [← hwn]
  clear hwn HX
  refine (dbad_any T r false 4 ((v2 ys).nx 1) wd H.out.1).mono ?_
  rintro e w4 ⟨rfl, hd⟩
  have HX := Lib.hid (H.out.read hd)
  rw [HVA.out] at HX
  clear hd
  have HFc := HX.out.2.1
  have x2 : w4.cell? ⟨g, 2, none⟩ = some (.int .i64 4) := HFc.cell 2
  have lg := HFc.lt
  clear HFc
  go_wp2_with fail
  clear lg x2 
  replace H := HX
  clear HX
  refine (doct_any T r (vA ys) w4 H.out.1).mono ?_
  rintro e w5 ⟨A5, c5, rfl, ho, hd⟩
  have HX := Lib.hid (H.out.read hd)
  have hcs := bytes_str (Rd.of_own ho) rfl
  obtain ⟨st, hst0⟩ : ∃ st, st = bs (vA ys).oct := ⟨_, rfl⟩
  rw [← hst0] at hcs
  have hst := Lib.hid hst0
  clear hst0
  clear hd ho
  have HFc := HX.out.2.1
  have x2 : w5.cell? ⟨g, 2, none⟩ = some (.int .i64 4) := HFc.cell 2
  have x37 : w5.cell? ⟨g, 37, none⟩ = some (.string ByteArray.empty) := (HFc.cell 37).trans (Co.at37 (c := ⟨cs, cq, ⟨4, 0, z32, 0, ByteArray.empty, 0⟩⟩) z32_len)
  have fx37 := HFc.frozen 37
  have lg := HFc.lt
  clear HFc
  go_upto_region 20 with fail
  clear lg x2 x37 fx37
  clear hcs
  obtain ⟨w6, hwn⟩ : ∃ u, u = w5.setCell ⟨g, 37, none⟩ (.string st) := ⟨_, rfl⟩
  replace H := Lib.hid (show DcAt W w6 T z r g ((vA ys).ox) ⟨cs, cq, ⟨4, 0, z32, 0, st, 0⟩⟩ by rw [hwn]; exact HX.out.set (set_tx cs cq 4 0 0 z32 z32_len ByteArray.empty st 0))
  rw [← hwn]
  clear hwn HX
  obtain ⟨co, hco⟩ : ∃ co, co = vC ys := ⟨_, rfl⟩
  have hcc : (⟨cs, cq, ⟨4, 0, z32, 0, st, 0⟩⟩ : Co) = co := by rw [hco]; unfold vC rop; rw [HKD.out, HCS.out, HCQ.out, hst.out]; rfl
  rw [hcc, show (vA ys).ox = vB ys from by unfold vB ropS; rw [HKD.out]; rfl] at H
  have HCO := Lib.hid hco
  have HK := Lib.hid (show co.o.ks.length = 32 by rw [hco]; exact rop_ks _ _)
  have HFc := H.out.2.1
  clear hco hcc HFc
  clear hst
  obtain ⟨n, hn⟩ : ∃ n, n = (vB ys).l.length := ⟨_, rfl⟩
  have HN := Lib.hid hn
  obtain ⟨bad, hbad⟩ : ∃ b, b = (decide (0 < (n : Int)) || !(cmB co)) := ⟨_, rfl⟩
  have HBAD := Lib.hid (show (vB ys).fail bad 4 = vZ ys by rw [hbad, hn, HCO.out]; rfl)
  obtain ⟨hdr, _⟩ := H.out
  obtain ⟨_, _, _, hnl, A6, c6, hb6, hr6⟩ := hdr
  obtain ⟨b0, b1, f0, f1⟩ := blk2 hb6
  have hcap := hr6.cap
  unfold maxLen at hcap
  obtain ⟨_, hc1, hc2⟩ := hcap
  have lrb := hb6.lt
  rw [← hn] at b0 hnl hc1
  clear hb6 hr6 hn
  by_cases hpos : 0 < n
  · have hn2 : (0 : Int) < (n : Int) := by omega
    have eb : bad = true := by rw [hbad, decide_eq_true hn2]; rfl
    clear hbad
    rw [eb] at HBAD
    go_wp2_with fail
    clear b0 b1 f0 f1 lrb
    refine (dbad_any T r true 4 (vB ys) _ H.out.1).mono ?_
    rintro e w8 ⟨rfl, hd⟩
    replace H := Lib.hid (H.out.read hd)
    rw [HBAD.out] at H
    clear hd
    obtain ⟨hdr, hbc, hbz, hbw, _, _, _, hzr, _, hWz, _, _⟩ := H.out
    obtain ⟨_, _, _, _, A8, c8, hb8, _⟩ := hdr
    obtain ⟨b0, b1, f0, f1⟩ := blk2 hb8
    have lrb := hb8.lt
    have HC := Lib.hid hbc
    have HZ := Lib.hid hbz
    have HB := Lib.hid hbw
    have HWZ := Lib.hid hWz
    obtain ⟨E, hE⟩ : ∃ E, E = (vZ ys).e := ⟨_, rfl⟩
    have HE := Lib.hid hE
    rw [← hE] at b1
    clear hb8 hE hbc hbz hbw hWz
    by_cases h0 : E = 0
    · subst h0
      go_wp2_with (first | (refine step_load36 rfl (.tmp 5) rfl g rfl co HK.out (blk_range HC.out) ?_) | (refine step_store36 rfl (.tmp 2) (.tmp 105) rfl z rfl co HK.out rfl _ HZ.out (by simp [Co.len (c := zCo) z32_len]) ?_; intro w9 hb9 hm9 hs9; have HB9 := Lib.hid hb9; have HM9 := Lib.hid hm9; clear hb9 hm9 hs9) | fail)
      refine bodyPost_ret (v := .tuple #[co.v, .int .i64 0]) (by simp [results, Try.results25, asAddr, load36v HB9.out HK.out]) rfl ?_
      exact ⟨co, by rw [← HE.out], HK.out, HB.out.trans (HM9.out.below HB.out.size (fun i hi => by subst hi; exact HWZ.out)), .inl ⟨HE.out.symm, HCO.out⟩⟩
    · have hq : (E != 0) = true := by simpa using h0
      have hi := info36
      have hu := Try.underlying36
      have hth := there_of_blk HZ.out (o := 0) (n := 39) (by simp [Co.len (c := zCo) z32_len])
      have hne : r ≠ z := fun e => hzr e.symm
      have hh1 : zCo.L.toArray.all (·.oneCell') = true := all_one (l := zCo.L) zCo_one
      go_wp2_with fail
      refine wp_region_held_drew (S := (fun w' => w'.cell? ⟨r, 1, none⟩ = some (.int .i64 E))) (by kernel_rfl) (b1) (fun hHeld => ?_)
      refine wpAnyH_take (i := 0) (v := ?_) rfl (by kernel_rfl) (by kernel_rfl) (by kernel_rfl) (fun _ _ _ h => h) (Or.inl ⟨by kernel_rfl, ?_⟩) (by assumption) ?_
      rotate_left 1
      · (intro w hSw; (try dsimp only at hSw); go_simp; try with_reducible rfl)
      try simp only [Act.put, List.getElem_toArray, List.getElem_cons_succ, List.getElem_cons_zero, List.setIfInBounds_toArray, List.set_cons_zero, List.set_cons_succ]
      refine wpAnyH_take (i := 1) (v := ?_) rfl (by kernel_rfl) (by kernel_rfl) (by kernel_rfl) (fun _ _ _ h => h) (Or.inl ⟨by kernel_rfl, ?_⟩) (by assumption) ?_
      rotate_left 1
      · (intro w hSw; (try dsimp only at hSw); go_simp; try with_reducible rfl)
      try simp only [Act.put, List.getElem_toArray, List.getElem_cons_succ, List.getElem_cons_zero, List.setIfInBounds_toArray, List.set_cons_zero, List.set_cons_succ]
      refine wpAnyH_take (i := 2) (v := ?_) rfl (by kernel_rfl) (by kernel_rfl) (by kernel_rfl) (fun _ _ _ h => h) (Or.inl ⟨by kernel_rfl, ?_⟩) (by assumption) ?_
      rotate_left 1
      · (intro w hSw; (try dsimp only at hSw); go_simp; try with_reducible rfl)
      try simp only [Act.put, List.getElem_toArray, List.getElem_cons_succ, List.getElem_cons_zero, List.setIfInBounds_toArray, List.set_cons_zero, List.set_cons_succ]
      refine wpAnyH_take (i := 3) (v := ?_) rfl (by kernel_rfl) (by kernel_rfl) (by kernel_rfl) (fun _ _ _ h => h) (Or.inl ⟨by kernel_rfl, ?_⟩) (by assumption) ?_
      rotate_left 1
      · (intro w hSw; (try dsimp only at hSw); go_simp; try with_reducible rfl)
      try simp only [Act.put, List.getElem_toArray, List.getElem_cons_succ, List.getElem_cons_zero, List.setIfInBounds_toArray, List.set_cons_zero, List.set_cons_succ]
      refine wpAnyH_take (i := 4) (v := ?_) rfl (by kernel_rfl) (by kernel_rfl) (by kernel_rfl) (fun _ _ _ h => h) (Or.inl ⟨by kernel_rfl, ?_⟩) (by assumption) ?_
      rotate_left 1
      · (intro w hSw; (try dsimp only at hSw); go_simp; try with_reducible rfl)
      try simp only [Act.put, List.getElem_toArray, List.getElem_cons_succ, List.getElem_cons_zero, List.setIfInBounds_toArray, List.set_cons_zero, List.set_cons_succ]
      refine wpAnyH_ready (rs := [5]) (by kernel_rfl) (by simp) ?_
      refine AllReadyH.cons rfl (fun K hK => ?_) AllReadyH.nil
      refine wp_store_row 36 (.tmp 2) (.tmp 100) rfl z zCo.L.toArray rfl rfl 36 zCo.L.toArray HZ.out.drew (by rw [info36]; rfl) rfl hh1 ?_
      have HN9 := Lib.hid (show Blk (w8.drew.setRow z zCo.L.toArray) z 36 zCo.L.toArray from HZ.out.drew.setRow _)
      have HM9 := Lib.hid (show Mod (fun j => j = z) w8.drew (w8.drew.setRow z zCo.L.toArray) from (Mod.refl (fun j => j = z) w8.drew).setRow (.inl rfl) _)
      refine hK.out _ _ ((HM9.out.cell (p := ⟨r, 1, none⟩) (show w8.drew.cell? ⟨r, 1, none⟩ = some (.int .i64 E) from b1) hne)) (fun hHeld => ?_)
      clear hK K
      try simp only [Act.put, List.getElem_toArray, List.getElem_cons_succ, List.getElem_cons_zero, List.setIfInBounds_toArray, List.set_cons_zero, List.set_cons_succ]
      refine wpAnyH_take (i := 6) (v := ?_) rfl (by kernel_rfl) (by kernel_rfl) (by kernel_rfl) (fun _ _ _ h => h) (Or.inl ⟨by kernel_rfl, ?_⟩) (by assumption) ?_
      rotate_left 1
      · (intro w hSw; (try dsimp only at hSw); go_simp; try with_reducible rfl)
      try simp only [Act.put, List.getElem_toArray, List.getElem_cons_succ, List.getElem_cons_zero, List.setIfInBounds_toArray, List.set_cons_zero, List.set_cons_succ]
      refine wpAnyH_done (by kernel_rfl) ?_ _
      go_wp2_with fail
      refine bodyPost_ret (v := .tuple #[zCo.v, .int .i64 E]) (by simp [results, Try.results25, asAddr, load36v HN9.out (show zCo.o.ks.length = 32 from z32_len)]) rfl ?_
      exact ⟨zCo, by rw [← HE.out], z32_len, (Bd HB.out).trans (HM9.out.below (Bd HB.out).size (fun i hi => by subst hi; exact HWZ.out)), .inr ⟨by rw [← HE.out]; exact h0, rfl⟩⟩

  · have hn0 : n = 0 := by omega
    subst hn0
    obtain ⟨cm, hcm⟩ : ∃ cm, cm = cmB co := ⟨_, rfl⟩
    have eb : bad = !cm := by rw [hbad, decide_eq_false (by omega), ← hcm]; rfl
    have HCM := Lib.hid hcm
    clear hbad hcm
    rw [eb] at HBAD
    have HC6 := Lib.hid H.out.2.1
    go_wp2_with (first | (refine step_load36 (by first | rfl | simp [Region.wanted, yielded]) (.tmp 5) rfl g rfl co HK.out (blk_range HC6.out) ?_) | fail)
    refine (refmay_any co _ HK.out).mono ?_
    rw [← HCM.out]
    rintro e w7b ⟨rfl, hbm⟩
    replace H := Lib.hid (H.out.later hbm)
    clear hbm b0 b1 f0 f1 lrb HC6
    go_wp2_with fail
    refine (dbad_any T r (!cm) 4 (vB ys) _ H.out.1).mono ?_
    rintro e w8 ⟨rfl, hd⟩
    replace H := Lib.hid (H.out.read hd)
    rw [HBAD.out] at H
    clear hd
    obtain ⟨hdr, hbc, hbz, hbw, _, _, _, hzr, _, hWz, _, _⟩ := H.out
    obtain ⟨_, _, _, _, A8, c8, hb8, _⟩ := hdr
    obtain ⟨b0, b1, f0, f1⟩ := blk2 hb8
    have lrb := hb8.lt
    have HC := Lib.hid hbc
    have HZ := Lib.hid hbz
    have HB := Lib.hid hbw
    have HWZ := Lib.hid hWz
    obtain ⟨E, hE⟩ : ∃ E, E = (vZ ys).e := ⟨_, rfl⟩
    have HE := Lib.hid hE
    rw [← hE] at b1
    clear hb8 hE hbc hbz hbw hWz
    by_cases h0 : E = 0
    · subst h0
      go_wp2_with (first | (refine step_load36 rfl (.tmp 5) rfl g rfl co HK.out (blk_range HC.out) ?_) | (refine step_store36 rfl (.tmp 2) (.tmp 105) rfl z rfl co HK.out rfl _ HZ.out (by simp [Co.len (c := zCo) z32_len]) ?_; intro w9 hb9 hm9 hs9; have HB9 := Lib.hid hb9; have HM9 := Lib.hid hm9; clear hb9 hm9 hs9) | fail)
      refine bodyPost_ret (v := .tuple #[co.v, .int .i64 0]) (by simp [results, Try.results25, asAddr, load36v HB9.out HK.out]) rfl ?_
      exact ⟨co, by rw [← HE.out], HK.out, HB.out.trans (HM9.out.below HB.out.size (fun i hi => by subst hi; exact HWZ.out)), .inl ⟨HE.out.symm, HCO.out⟩⟩
    · have hq : (E != 0) = true := by simpa using h0
      have hi := info36
      have hu := Try.underlying36
      have hth := there_of_blk HZ.out (o := 0) (n := 39) (by simp [Co.len (c := zCo) z32_len])
      have hne : r ≠ z := fun e => hzr e.symm
      have hh1 : zCo.L.toArray.all (·.oneCell') = true := all_one (l := zCo.L) zCo_one
      go_wp2_with fail
      refine wp_region_held_drew (S := (fun w' => w'.cell? ⟨r, 1, none⟩ = some (.int .i64 E))) (by kernel_rfl) (b1) (fun hHeld => ?_)
      refine wpAnyH_take (i := 0) (v := ?_) rfl (by kernel_rfl) (by kernel_rfl) (by kernel_rfl) (fun _ _ _ h => h) (Or.inl ⟨by kernel_rfl, ?_⟩) (by assumption) ?_
      rotate_left 1
      · (intro w hSw; (try dsimp only at hSw); go_simp; try with_reducible rfl)
      try simp only [Act.put, List.getElem_toArray, List.getElem_cons_succ, List.getElem_cons_zero, List.setIfInBounds_toArray, List.set_cons_zero, List.set_cons_succ]
      refine wpAnyH_take (i := 1) (v := ?_) rfl (by kernel_rfl) (by kernel_rfl) (by kernel_rfl) (fun _ _ _ h => h) (Or.inl ⟨by kernel_rfl, ?_⟩) (by assumption) ?_
      rotate_left 1
      · (intro w hSw; (try dsimp only at hSw); go_simp; try with_reducible rfl)
      try simp only [Act.put, List.getElem_toArray, List.getElem_cons_succ, List.getElem_cons_zero, List.setIfInBounds_toArray, List.set_cons_zero, List.set_cons_succ]
      refine wpAnyH_take (i := 2) (v := ?_) rfl (by kernel_rfl) (by kernel_rfl) (by kernel_rfl) (fun _ _ _ h => h) (Or.inl ⟨by kernel_rfl, ?_⟩) (by assumption) ?_
      rotate_left 1
      · (intro w hSw; (try dsimp only at hSw); go_simp; try with_reducible rfl)
      try simp only [Act.put, List.getElem_toArray, List.getElem_cons_succ, List.getElem_cons_zero, List.setIfInBounds_toArray, List.set_cons_zero, List.set_cons_succ]
      refine wpAnyH_take (i := 3) (v := ?_) rfl (by kernel_rfl) (by kernel_rfl) (by kernel_rfl) (fun _ _ _ h => h) (Or.inl ⟨by kernel_rfl, ?_⟩) (by assumption) ?_
      rotate_left 1
      · (intro w hSw; (try dsimp only at hSw); go_simp; try with_reducible rfl)
      try simp only [Act.put, List.getElem_toArray, List.getElem_cons_succ, List.getElem_cons_zero, List.setIfInBounds_toArray, List.set_cons_zero, List.set_cons_succ]
      refine wpAnyH_take (i := 4) (v := ?_) rfl (by kernel_rfl) (by kernel_rfl) (by kernel_rfl) (fun _ _ _ h => h) (Or.inl ⟨by kernel_rfl, ?_⟩) (by assumption) ?_
      rotate_left 1
      · (intro w hSw; (try dsimp only at hSw); go_simp; try with_reducible rfl)
      try simp only [Act.put, List.getElem_toArray, List.getElem_cons_succ, List.getElem_cons_zero, List.setIfInBounds_toArray, List.set_cons_zero, List.set_cons_succ]
      refine wpAnyH_ready (rs := [5]) (by kernel_rfl) (by simp) ?_
      refine AllReadyH.cons rfl (fun K hK => ?_) AllReadyH.nil
      refine wp_store_row 36 (.tmp 2) (.tmp 100) rfl z zCo.L.toArray rfl rfl 36 zCo.L.toArray HZ.out.drew (by rw [info36]; rfl) rfl hh1 ?_
      have HN9 := Lib.hid (show Blk (w8.drew.setRow z zCo.L.toArray) z 36 zCo.L.toArray from HZ.out.drew.setRow _)
      have HM9 := Lib.hid (show Mod (fun j => j = z) w8.drew (w8.drew.setRow z zCo.L.toArray) from (Mod.refl (fun j => j = z) w8.drew).setRow (.inl rfl) _)
      refine hK.out _ _ ((HM9.out.cell (p := ⟨r, 1, none⟩) (show w8.drew.cell? ⟨r, 1, none⟩ = some (.int .i64 E) from b1) hne)) (fun hHeld => ?_)
      clear hK K
      try simp only [Act.put, List.getElem_toArray, List.getElem_cons_succ, List.getElem_cons_zero, List.setIfInBounds_toArray, List.set_cons_zero, List.set_cons_succ]
      refine wpAnyH_take (i := 6) (v := ?_) rfl (by kernel_rfl) (by kernel_rfl) (by kernel_rfl) (fun _ _ _ h => h) (Or.inl ⟨by kernel_rfl, ?_⟩) (by assumption) ?_
      rotate_left 1
      · (intro w hSw; (try dsimp only at hSw); go_simp; try with_reducible rfl)
      try simp only [Act.put, List.getElem_toArray, List.getElem_cons_succ, List.getElem_cons_zero, List.setIfInBounds_toArray, List.set_cons_zero, List.set_cons_succ]
      refine wpAnyH_done (by kernel_rfl) ?_ _
      go_wp2_with fail
      refine bodyPost_ret (v := .tuple #[zCo.v, .int .i64 E]) (by simp [results, Try.results25, asAddr, load36v HN9.out (show zCo.o.ks.length = 32 from z32_len)]) rfl ?_
      exact ⟨zCo, by rw [← HE.out], z32_len, (Bd HB.out).trans (HM9.out.below (Bd HB.out).size (fun i hi => by subst hi; exact HWZ.out)), .inr ⟨by rw [← HE.out]; exact h0, rfl⟩⟩
end

section
set_option maxHeartbeats 8000000 in
theorem refcmd_k5 (T : Nat → Prop) (A : Option Addr) (c : Nat) (ys : List Int) (W : World) (hr : Rd W T 1 (.slice A ys.length c) ys.length (bts ys)) (hT : ∀ i, T i → i < W.heap.size) (hb : Byt ys) (hl : ys.length ≤ 140737488351232) (hkd : vKd ys = 5) :
    Calls Try.prog 25 #[.slice A ys.length c] W (CmDid ys W) := by
  obtain ⟨z, hz⟩ : ∃ z, z = W.heap.size := ⟨_, rfl⟩
  obtain ⟨r, hrr⟩ : ∃ r, r = W.heap.size + 1 := ⟨_, rfl⟩
  obtain ⟨g, hg⟩ : ∃ g, g = W.heap.size + 1 + 1 := ⟨_, rfl⟩
  obtain ⟨wa, hwa⟩ : ∃ wa, wa = ((W.alloc (.cells zCo.L.toArray 36)).alloc (.cells #[.slice A ys.length c, .int .i64 0] 83)).alloc (.cells zCo.L.toArray 36) := ⟨_, rfl⟩
  have H := Lib.hid (show DcAt W wa T z r g ⟨ys, 0⟩ zCo by
    rw [hwa, hz, hrr, hg]
    have hbl := Ba (Ba (Ba (B0 W) (.cells zCo.L.toArray 36)) (.cells #[.slice A ys.length c, .int .i64 0] 83)) (.cells zCo.L.toArray 36)
    exact ⟨⟨fun i hi => Nat.lt_of_lt_of_le (hT i hi) hbl.size, fun h => by have := hT _ h; omega, hb, hl, A, c, (Blk.new1 W _ _ _).alloc _, hr.below hbl hT⟩, Blk.new2 W _ _ _ _, ((Blk.new W _ _).alloc _).alloc _, hbl, fun h => by have := hT _ h; omega, fun h => by have := hT _ h; omega, by omega, by omega, by omega, by omega, by omega, by omega⟩)
  have HWA := Lib.hid hwa
  have HZQ := Lib.hid hz
  have HRR := Lib.hid hrr
  have HG := Lib.hid hg
  have HKD := Lib.hid hkd
  have HVA : Hid (((v2 ys).nx 1).fail false 4 = vA ys) := Lib.hid (by unfold vA; rw [hkd]; rfl)
  clear hr hT hb hl hz hrr hg hwa hkd
  go_enter Try.func25, Try.ntmps25
  go_wp2_with fail
  change Calls _ _ _ (((W.alloc (.cells zCo.L.toArray 36)).alloc (.cells #[.slice A ys.length c, .int .i64 0] 83)).alloc (.cells zCo.L.toArray 36)) _
  rw [← HG.out, ← HRR.out, ← HZQ.out, ← HWA.out]
  obtain ⟨cs, hcs⟩ : ∃ x, x = (⟨ys, 0⟩ : St).num 1 := ⟨_, rfl⟩
  obtain ⟨cq, hcq⟩ : ∃ x, x = (v1 ys).num 7 := ⟨_, rfl⟩
  have HCS := Lib.hid hcs
  have HCQ := Lib.hid hcq
  clear hcs hcq
  refine (dget_any T r 1 ⟨ys, 0⟩ wa H.out.1 (.inl rfl)).mono ?_
  rw [← HCS.out]
  rintro e w1 ⟨rfl, hd⟩
  have HX := Lib.hid (H.out.read hd)
  clear hd
  have HFc := HX.out.2.1
  have x0 : w1.cell? ⟨g, 0, none⟩ = some (.int .i64 0) := HFc.cell 0
  have fx0 := HFc.frozen 0
  have lg := HFc.lt
  clear HFc
  go_wp2_with fail
  clear lg x0 fx0
  obtain ⟨wb, hwn⟩ : ∃ u, u = w1.setCell ⟨g, 0, none⟩ (.int .i64 cs) := ⟨_, rfl⟩
  replace H := Lib.hid (show DcAt W wb T z r g (v1 ys) ⟨cs, 0, ⟨0, 0, z32, 0, ByteArray.empty, 0⟩⟩ by rw [hwn]; exact HX.out.set (set_s 0 0 0 0 0 z32 ByteArray.empty 0 cs))
  rw [← hwn]
  clear hwn HX
  refine (dget_any T r 7 (v1 ys) wb H.out.1 (.inr (.inr rfl))).mono ?_
  rw [← HCQ.out]
  rintro e w2 ⟨rfl, hd⟩
  have HX := Lib.hid (H.out.read hd)
  clear hd
  have HFc := HX.out.2.1
  have x1 : w2.cell? ⟨g, 1, none⟩ = some (.int .i64 0) := HFc.cell 1
  have fx1 := HFc.frozen 1
  have lg := HFc.lt
  clear HFc
  go_wp2_with fail
  clear lg x1 fx1
  obtain ⟨wc, hwn⟩ : ∃ u, u = w2.setCell ⟨g, 1, none⟩ (.int .i64 cq) := ⟨_, rfl⟩
  replace H := Lib.hid (show DcAt W wc T z r g (v2 ys) ⟨cs, cq, ⟨0, 0, z32, 0, ByteArray.empty, 0⟩⟩ by rw [hwn]; exact HX.out.set (set_q cs 0 0 0 0 z32 ByteArray.empty 0 cq))
  rw [← hwn]
  clear hwn HX
  refine (dget_any T r 1 (v2 ys) wc H.out.1 (.inl rfl)).mono ?_
  rw [show (v2 ys).num 1 = 5 from HKD.out]
  rintro e w3 ⟨rfl, hd⟩
  have HX := Lib.hid (H.out.read hd)
  clear hd
  have HFc := HX.out.2.1
  have x2 : w3.cell? ⟨g, 2, none⟩ = some (.int .i64 0) := HFc.cell 2
  have fx2 := HFc.frozen 2
  have lg := HFc.lt
  clear HFc
  go_wp2_with fail
  clear lg x2 fx2
  obtain ⟨wd, hwn⟩ : ∃ u, u = w3.setCell ⟨g, 2, none⟩ (.int .i64 5) := ⟨_, rfl⟩
  replace H := Lib.hid (show DcAt W wd T z r g ((v2 ys).nx 1) ⟨cs, cq, ⟨5, 0, z32, 0, ByteArray.empty, 0⟩⟩ by rw [hwn]; exact HX.out.set (set_kd cs cq 0 0 0 z32 ByteArray.empty 0 (5)))
  rw [← hwn]
  clear hwn HX
  refine (dbad_any T r false 4 ((v2 ys).nx 1) wd H.out.1).mono ?_
  rintro e w4 ⟨rfl, hd⟩
  have HX := Lib.hid (H.out.read hd)
  rw [HVA.out] at HX
  clear hd
  have HFc := HX.out.2.1
  have x2 : w4.cell? ⟨g, 2, none⟩ = some (.int .i64 5) := HFc.cell 2
  have lg := HFc.lt
  clear HFc
  go_wp2_with fail
  clear lg x2 
  replace H := HX
  clear HX
  obtain ⟨ti, hti0⟩ : ∃ ti, ti = (vA ys).num 7 := ⟨_, rfl⟩
  have hti := Lib.hid hti0
  clear hti0
  refine (dget_any T r 7 (vA ys) w4 H.out.1 (.inr (.inr rfl))).mono ?_
  rw [← hti.out]
  rintro e w5 ⟨rfl, hd⟩
  have HX := Lib.hid (H.out.read hd)
  clear hd
  have HFc := HX.out.2.1
  have x2 : w5.cell? ⟨g, 2, none⟩ = some (.int .i64 5) := HFc.cell 2
  have x38 : w5.cell? ⟨g, 38, none⟩ = some (.int .i64 0) := (HFc.cell 38).trans (Co.at38 (c := ⟨cs, cq, ⟨5, 0, z32, 0, ByteArray.empty, 0⟩⟩) z32_len)
  have fx38 := HFc.frozen 38
  have lg := HFc.lt
  clear HFc
  go_upto_region 20 with fail
  clear lg x2 x38 fx38
  obtain ⟨w6, hwn⟩ : ∃ u, u = w5.setCell ⟨g, 38, none⟩ (.int .i64 ti) := ⟨_, rfl⟩
  replace H := Lib.hid (show DcAt W w6 T z r g ((vA ys).nx 7) ⟨cs, cq, ⟨5, 0, z32, 0, ByteArray.empty, ti⟩⟩ by rw [hwn]; exact HX.out.set (set_ti cs cq 5 0 0 z32 z32_len ByteArray.empty 0 ti))
  rw [← hwn]
  clear hwn HX
  obtain ⟨co, hco⟩ : ∃ co, co = vC ys := ⟨_, rfl⟩
  have hcc : (⟨cs, cq, ⟨5, 0, z32, 0, ByteArray.empty, ti⟩⟩ : Co) = co := by rw [hco]; unfold vC rop; rw [HKD.out, HCS.out, HCQ.out, hti.out]; rfl
  rw [hcc, show (vA ys).nx 7 = vB ys from by unfold vB ropS; rw [HKD.out]; rfl] at H
  have HCO := Lib.hid hco
  have HK := Lib.hid (show co.o.ks.length = 32 by rw [hco]; exact rop_ks _ _)
  have HFc := H.out.2.1
  clear hco hcc HFc
  clear hti
  obtain ⟨n, hn⟩ : ∃ n, n = (vB ys).l.length := ⟨_, rfl⟩
  have HN := Lib.hid hn
  obtain ⟨bad, hbad⟩ : ∃ b, b = (decide (0 < (n : Int)) || !(cmB co)) := ⟨_, rfl⟩
  have HBAD := Lib.hid (show (vB ys).fail bad 4 = vZ ys by rw [hbad, hn, HCO.out]; rfl)
  obtain ⟨hdr, _⟩ := H.out
  obtain ⟨_, _, _, hnl, A6, c6, hb6, hr6⟩ := hdr
  obtain ⟨b0, b1, f0, f1⟩ := blk2 hb6
  have hcap := hr6.cap
  unfold maxLen at hcap
  obtain ⟨_, hc1, hc2⟩ := hcap
  have lrb := hb6.lt
  rw [← hn] at b0 hnl hc1
  clear hb6 hr6 hn
  by_cases hpos : 0 < n
  · have hn2 : (0 : Int) < (n : Int) := by omega
    have eb : bad = true := by rw [hbad, decide_eq_true hn2]; rfl
    clear hbad
    rw [eb] at HBAD
    go_wp2_with fail
    clear b0 b1 f0 f1 lrb
    refine (dbad_any T r true 4 (vB ys) _ H.out.1).mono ?_
    rintro e w8 ⟨rfl, hd⟩
    replace H := Lib.hid (H.out.read hd)
    rw [HBAD.out] at H
    clear hd
    obtain ⟨hdr, hbc, hbz, hbw, _, _, _, hzr, _, hWz, _, _⟩ := H.out
    obtain ⟨_, _, _, _, A8, c8, hb8, _⟩ := hdr
    obtain ⟨b0, b1, f0, f1⟩ := blk2 hb8
    have lrb := hb8.lt
    have HC := Lib.hid hbc
    have HZ := Lib.hid hbz
    have HB := Lib.hid hbw
    have HWZ := Lib.hid hWz
    obtain ⟨E, hE⟩ : ∃ E, E = (vZ ys).e := ⟨_, rfl⟩
    have HE := Lib.hid hE
    rw [← hE] at b1
    clear hb8 hE hbc hbz hbw hWz
    by_cases h0 : E = 0
    · subst h0
      go_wp2_with (first | (refine step_load36 rfl (.tmp 5) rfl g rfl co HK.out (blk_range HC.out) ?_) | (refine step_store36 rfl (.tmp 2) (.tmp 105) rfl z rfl co HK.out rfl _ HZ.out (by simp [Co.len (c := zCo) z32_len]) ?_; intro w9 hb9 hm9 hs9; have HB9 := Lib.hid hb9; have HM9 := Lib.hid hm9; clear hb9 hm9 hs9) | fail)
      refine bodyPost_ret (v := .tuple #[co.v, .int .i64 0]) (by simp [results, Try.results25, asAddr, load36v HB9.out HK.out]) rfl ?_
      exact ⟨co, by rw [← HE.out], HK.out, HB.out.trans (HM9.out.below HB.out.size (fun i hi => by subst hi; exact HWZ.out)), .inl ⟨HE.out.symm, HCO.out⟩⟩
    · have hq : (E != 0) = true := by simpa using h0
      have hi := info36
      have hu := Try.underlying36
      have hth := there_of_blk HZ.out (o := 0) (n := 39) (by simp [Co.len (c := zCo) z32_len])
      have hne : r ≠ z := fun e => hzr e.symm
      have hh1 : zCo.L.toArray.all (·.oneCell') = true := all_one (l := zCo.L) zCo_one
      go_wp2_with fail
      refine wp_region_held_drew (S := (fun w' => w'.cell? ⟨r, 1, none⟩ = some (.int .i64 E))) (by kernel_rfl) (b1) (fun hHeld => ?_)
      refine wpAnyH_take (i := 0) (v := ?_) rfl (by kernel_rfl) (by kernel_rfl) (by kernel_rfl) (fun _ _ _ h => h) (Or.inl ⟨by kernel_rfl, ?_⟩) (by assumption) ?_
      rotate_left 1
      · (intro w hSw; (try dsimp only at hSw); go_simp; try with_reducible rfl)
      try simp only [Act.put, List.getElem_toArray, List.getElem_cons_succ, List.getElem_cons_zero, List.setIfInBounds_toArray, List.set_cons_zero, List.set_cons_succ]
      refine wpAnyH_take (i := 1) (v := ?_) rfl (by kernel_rfl) (by kernel_rfl) (by kernel_rfl) (fun _ _ _ h => h) (Or.inl ⟨by kernel_rfl, ?_⟩) (by assumption) ?_
      rotate_left 1
      · (intro w hSw; (try dsimp only at hSw); go_simp; try with_reducible rfl)
      try simp only [Act.put, List.getElem_toArray, List.getElem_cons_succ, List.getElem_cons_zero, List.setIfInBounds_toArray, List.set_cons_zero, List.set_cons_succ]
      refine wpAnyH_take (i := 2) (v := ?_) rfl (by kernel_rfl) (by kernel_rfl) (by kernel_rfl) (fun _ _ _ h => h) (Or.inl ⟨by kernel_rfl, ?_⟩) (by assumption) ?_
      rotate_left 1
      · (intro w hSw; (try dsimp only at hSw); go_simp; try with_reducible rfl)
      try simp only [Act.put, List.getElem_toArray, List.getElem_cons_succ, List.getElem_cons_zero, List.setIfInBounds_toArray, List.set_cons_zero, List.set_cons_succ]
      refine wpAnyH_take (i := 3) (v := ?_) rfl (by kernel_rfl) (by kernel_rfl) (by kernel_rfl) (fun _ _ _ h => h) (Or.inl ⟨by kernel_rfl, ?_⟩) (by assumption) ?_
      rotate_left 1
      · (intro w hSw; (try dsimp only at hSw); go_simp; try with_reducible rfl)
      try simp only [Act.put, List.getElem_toArray, List.getElem_cons_succ, List.getElem_cons_zero, List.setIfInBounds_toArray, List.set_cons_zero, List.set_cons_succ]
      refine wpAnyH_take (i := 4) (v := ?_) rfl (by kernel_rfl) (by kernel_rfl) (by kernel_rfl) (fun _ _ _ h => h) (Or.inl ⟨by kernel_rfl, ?_⟩) (by assumption) ?_
      rotate_left 1
      · (intro w hSw; (try dsimp only at hSw); go_simp; try with_reducible rfl)
      try simp only [Act.put, List.getElem_toArray, List.getElem_cons_succ, List.getElem_cons_zero, List.setIfInBounds_toArray, List.set_cons_zero, List.set_cons_succ]
      refine wpAnyH_ready (rs := [5]) (by kernel_rfl) (by simp) ?_
      refine AllReadyH.cons rfl (fun K hK => ?_) AllReadyH.nil
      refine wp_store_row 36 (.tmp 2) (.tmp 100) rfl z zCo.L.toArray rfl rfl 36 zCo.L.toArray HZ.out.drew (by rw [info36]; rfl) rfl hh1 ?_
      have HN9 := Lib.hid (show Blk (w8.drew.setRow z zCo.L.toArray) z 36 zCo.L.toArray from HZ.out.drew.setRow _)
      have HM9 := Lib.hid (show Mod (fun j => j = z) w8.drew (w8.drew.setRow z zCo.L.toArray) from (Mod.refl (fun j => j = z) w8.drew).setRow (.inl rfl) _)
      refine hK.out _ _ ((HM9.out.cell (p := ⟨r, 1, none⟩) (show w8.drew.cell? ⟨r, 1, none⟩ = some (.int .i64 E) from b1) hne)) (fun hHeld => ?_)
      clear hK K
      try simp only [Act.put, List.getElem_toArray, List.getElem_cons_succ, List.getElem_cons_zero, List.setIfInBounds_toArray, List.set_cons_zero, List.set_cons_succ]
      refine wpAnyH_take (i := 6) (v := ?_) rfl (by kernel_rfl) (by kernel_rfl) (by kernel_rfl) (fun _ _ _ h => h) (Or.inl ⟨by kernel_rfl, ?_⟩) (by assumption) ?_
      rotate_left 1
      · (intro w hSw; (try dsimp only at hSw); go_simp; try with_reducible rfl)
      try simp only [Act.put, List.getElem_toArray, List.getElem_cons_succ, List.getElem_cons_zero, List.setIfInBounds_toArray, List.set_cons_zero, List.set_cons_succ]
      refine wpAnyH_done (by kernel_rfl) ?_ _
      go_wp2_with fail
      refine bodyPost_ret (v := .tuple #[zCo.v, .int .i64 E]) (by simp [results, Try.results25, asAddr, load36v HN9.out (show zCo.o.ks.length = 32 from z32_len)]) rfl ?_
      exact ⟨zCo, by rw [← HE.out], z32_len, (Bd HB.out).trans (HM9.out.below (Bd HB.out).size (fun i hi => by subst hi; exact HWZ.out)), .inr ⟨by rw [← HE.out]; exact h0, rfl⟩⟩

  · have hn0 : n = 0 := by omega
    subst hn0
    obtain ⟨cm, hcm⟩ : ∃ cm, cm = cmB co := ⟨_, rfl⟩
    have eb : bad = !cm := by rw [hbad, decide_eq_false (by omega), ← hcm]; rfl
    have HCM := Lib.hid hcm
    clear hbad hcm
    rw [eb] at HBAD
    have HC6 := Lib.hid H.out.2.1
    go_wp2_with (first | (refine step_load36 (by first | rfl | simp [Region.wanted, yielded]) (.tmp 5) rfl g rfl co HK.out (blk_range HC6.out) ?_) | fail)
    refine (refmay_any co _ HK.out).mono ?_
    rw [← HCM.out]
    rintro e w7b ⟨rfl, hbm⟩
    replace H := Lib.hid (H.out.later hbm)
    clear hbm b0 b1 f0 f1 lrb HC6
    go_wp2_with fail
    refine (dbad_any T r (!cm) 4 (vB ys) _ H.out.1).mono ?_
    rintro e w8 ⟨rfl, hd⟩
    replace H := Lib.hid (H.out.read hd)
    rw [HBAD.out] at H
    clear hd
    obtain ⟨hdr, hbc, hbz, hbw, _, _, _, hzr, _, hWz, _, _⟩ := H.out
    obtain ⟨_, _, _, _, A8, c8, hb8, _⟩ := hdr
    obtain ⟨b0, b1, f0, f1⟩ := blk2 hb8
    have lrb := hb8.lt
    have HC := Lib.hid hbc
    have HZ := Lib.hid hbz
    have HB := Lib.hid hbw
    have HWZ := Lib.hid hWz
    obtain ⟨E, hE⟩ : ∃ E, E = (vZ ys).e := ⟨_, rfl⟩
    have HE := Lib.hid hE
    rw [← hE] at b1
    clear hb8 hE hbc hbz hbw hWz
    by_cases h0 : E = 0
    · subst h0
      go_wp2_with (first | (refine step_load36 rfl (.tmp 5) rfl g rfl co HK.out (blk_range HC.out) ?_) | (refine step_store36 rfl (.tmp 2) (.tmp 105) rfl z rfl co HK.out rfl _ HZ.out (by simp [Co.len (c := zCo) z32_len]) ?_; intro w9 hb9 hm9 hs9; have HB9 := Lib.hid hb9; have HM9 := Lib.hid hm9; clear hb9 hm9 hs9) | fail)
      refine bodyPost_ret (v := .tuple #[co.v, .int .i64 0]) (by simp [results, Try.results25, asAddr, load36v HB9.out HK.out]) rfl ?_
      exact ⟨co, by rw [← HE.out], HK.out, HB.out.trans (HM9.out.below HB.out.size (fun i hi => by subst hi; exact HWZ.out)), .inl ⟨HE.out.symm, HCO.out⟩⟩
    · have hq : (E != 0) = true := by simpa using h0
      have hi := info36
      have hu := Try.underlying36
      have hth := there_of_blk HZ.out (o := 0) (n := 39) (by simp [Co.len (c := zCo) z32_len])
      have hne : r ≠ z := fun e => hzr e.symm
      have hh1 : zCo.L.toArray.all (·.oneCell') = true := all_one (l := zCo.L) zCo_one
      go_wp2_with fail
      refine wp_region_held_drew (S := (fun w' => w'.cell? ⟨r, 1, none⟩ = some (.int .i64 E))) (by kernel_rfl) (b1) (fun hHeld => ?_)
      refine wpAnyH_take (i := 0) (v := ?_) rfl (by kernel_rfl) (by kernel_rfl) (by kernel_rfl) (fun _ _ _ h => h) (Or.inl ⟨by kernel_rfl, ?_⟩) (by assumption) ?_
      rotate_left 1
      · (intro w hSw; (try dsimp only at hSw); go_simp; try with_reducible rfl)
      try simp only [Act.put, List.getElem_toArray, List.getElem_cons_succ, List.getElem_cons_zero, List.setIfInBounds_toArray, List.set_cons_zero, List.set_cons_succ]
      refine wpAnyH_take (i := 1) (v := ?_) rfl (by kernel_rfl) (by kernel_rfl) (by kernel_rfl) (fun _ _ _ h => h) (Or.inl ⟨by kernel_rfl, ?_⟩) (by assumption) ?_
      rotate_left 1
      · (intro w hSw; (try dsimp only at hSw); go_simp; try with_reducible rfl)
      try simp only [Act.put, List.getElem_toArray, List.getElem_cons_succ, List.getElem_cons_zero, List.setIfInBounds_toArray, List.set_cons_zero, List.set_cons_succ]
      refine wpAnyH_take (i := 2) (v := ?_) rfl (by kernel_rfl) (by kernel_rfl) (by kernel_rfl) (fun _ _ _ h => h) (Or.inl ⟨by kernel_rfl, ?_⟩) (by assumption) ?_
      rotate_left 1
      · (intro w hSw; (try dsimp only at hSw); go_simp; try with_reducible rfl)
      try simp only [Act.put, List.getElem_toArray, List.getElem_cons_succ, List.getElem_cons_zero, List.setIfInBounds_toArray, List.set_cons_zero, List.set_cons_succ]
      refine wpAnyH_take (i := 3) (v := ?_) rfl (by kernel_rfl) (by kernel_rfl) (by kernel_rfl) (fun _ _ _ h => h) (Or.inl ⟨by kernel_rfl, ?_⟩) (by assumption) ?_
      rotate_left 1
      · (intro w hSw; (try dsimp only at hSw); go_simp; try with_reducible rfl)
      try simp only [Act.put, List.getElem_toArray, List.getElem_cons_succ, List.getElem_cons_zero, List.setIfInBounds_toArray, List.set_cons_zero, List.set_cons_succ]
      refine wpAnyH_take (i := 4) (v := ?_) rfl (by kernel_rfl) (by kernel_rfl) (by kernel_rfl) (fun _ _ _ h => h) (Or.inl ⟨by kernel_rfl, ?_⟩) (by assumption) ?_
      rotate_left 1
      · (intro w hSw; (try dsimp only at hSw); go_simp; try with_reducible rfl)
      try simp only [Act.put, List.getElem_toArray, List.getElem_cons_succ, List.getElem_cons_zero, List.setIfInBounds_toArray, List.set_cons_zero, List.set_cons_succ]
      refine wpAnyH_ready (rs := [5]) (by kernel_rfl) (by simp) ?_
      refine AllReadyH.cons rfl (fun K hK => ?_) AllReadyH.nil
      refine wp_store_row 36 (.tmp 2) (.tmp 100) rfl z zCo.L.toArray rfl rfl 36 zCo.L.toArray HZ.out.drew (by rw [info36]; rfl) rfl hh1 ?_
      have HN9 := Lib.hid (show Blk (w8.drew.setRow z zCo.L.toArray) z 36 zCo.L.toArray from HZ.out.drew.setRow _)
      have HM9 := Lib.hid (show Mod (fun j => j = z) w8.drew (w8.drew.setRow z zCo.L.toArray) from (Mod.refl (fun j => j = z) w8.drew).setRow (.inl rfl) _)
      refine hK.out _ _ ((HM9.out.cell (p := ⟨r, 1, none⟩) (show w8.drew.cell? ⟨r, 1, none⟩ = some (.int .i64 E) from b1) hne)) (fun hHeld => ?_)
      clear hK K
      try simp only [Act.put, List.getElem_toArray, List.getElem_cons_succ, List.getElem_cons_zero, List.setIfInBounds_toArray, List.set_cons_zero, List.set_cons_succ]
      refine wpAnyH_take (i := 6) (v := ?_) rfl (by kernel_rfl) (by kernel_rfl) (by kernel_rfl) (fun _ _ _ h => h) (Or.inl ⟨by kernel_rfl, ?_⟩) (by assumption) ?_
      rotate_left 1
      · (intro w hSw; (try dsimp only at hSw); go_simp; try with_reducible rfl)
      try simp only [Act.put, List.getElem_toArray, List.getElem_cons_succ, List.getElem_cons_zero, List.setIfInBounds_toArray, List.set_cons_zero, List.set_cons_succ]
      refine wpAnyH_done (by kernel_rfl) ?_ _
      go_wp2_with fail
      refine bodyPost_ret (v := .tuple #[zCo.v, .int .i64 E]) (by simp [results, Try.results25, asAddr, load36v HN9.out (show zCo.o.ks.length = 32 from z32_len)]) rfl ?_
      exact ⟨zCo, by rw [← HE.out], z32_len, (Bd HB.out).trans (HM9.out.below (Bd HB.out).size (fun i hi => by subst hi; exact HWZ.out)), .inr ⟨by rw [← HE.out]; exact h0, rfl⟩⟩
end

section
set_option maxHeartbeats 8000000 in
theorem refcmd_k6 (T : Nat → Prop) (A : Option Addr) (c : Nat) (ys : List Int) (W : World) (hr : Rd W T 1 (.slice A ys.length c) ys.length (bts ys)) (hT : ∀ i, T i → i < W.heap.size) (hb : Byt ys) (hl : ys.length ≤ 140737488351232) (hkd : 5 < vKd ys) :
    Calls Try.prog 25 #[.slice A ys.length c] W (CmDid ys W) := by
  obtain ⟨z, hz⟩ : ∃ z, z = W.heap.size := ⟨_, rfl⟩
  obtain ⟨r, hrr⟩ : ∃ r, r = W.heap.size + 1 := ⟨_, rfl⟩
  obtain ⟨g, hg⟩ : ∃ g, g = W.heap.size + 1 + 1 := ⟨_, rfl⟩
  obtain ⟨wa, hwa⟩ : ∃ wa, wa = ((W.alloc (.cells zCo.L.toArray 36)).alloc (.cells #[.slice A ys.length c, .int .i64 0] 83)).alloc (.cells zCo.L.toArray 36) := ⟨_, rfl⟩
  have H := Lib.hid (show DcAt W wa T z r g ⟨ys, 0⟩ zCo by
    rw [hwa, hz, hrr, hg]
    have hbl := Ba (Ba (Ba (B0 W) (.cells zCo.L.toArray 36)) (.cells #[.slice A ys.length c, .int .i64 0] 83)) (.cells zCo.L.toArray 36)
    exact ⟨⟨fun i hi => Nat.lt_of_lt_of_le (hT i hi) hbl.size, fun h => by have := hT _ h; omega, hb, hl, A, c, (Blk.new1 W _ _ _).alloc _, hr.below hbl hT⟩, Blk.new2 W _ _ _ _, ((Blk.new W _ _).alloc _).alloc _, hbl, fun h => by have := hT _ h; omega, fun h => by have := hT _ h; omega, by omega, by omega, by omega, by omega, by omega, by omega⟩)
  have HWA := Lib.hid hwa
  have HZQ := Lib.hid hz
  have HRR := Lib.hid hrr
  have HG := Lib.hid hg
  obtain ⟨kd, hke⟩ : ∃ kd, kd = vKd ys := ⟨_, rfl⟩
  have hk5 : 5 < kd := by rw [hke]; exact hkd
  have hw : wiB kd 1 5 = false := by simp [wiB]; omega
  have HKD := Lib.hid hke.symm
  have HVA : Hid (((v2 ys).nx 1).fail true 4 = vA ys) := Lib.hid (by unfold vA; rw [← hke, hw]; rfl)
  have d1 : ¬ kd < 1 := by omega
  have d3 : ¬ kd ≤ 3 := by omega
  have d2 : ¬ kd ≤ 2 := by omega
  have d4 : (kd == 4) = false := by simp; omega
  have d5 : (kd == 5) = false := by simp; omega
  clear hr hT hb hl hz hrr hg hwa hkd hke hw
  go_enter Try.func25, Try.ntmps25
  go_wp2_with fail
  change Calls _ _ _ (((W.alloc (.cells zCo.L.toArray 36)).alloc (.cells #[.slice A ys.length c, .int .i64 0] 83)).alloc (.cells zCo.L.toArray 36)) _
  rw [← HG.out, ← HRR.out, ← HZQ.out, ← HWA.out]
  obtain ⟨cs, hcs⟩ : ∃ x, x = (⟨ys, 0⟩ : St).num 1 := ⟨_, rfl⟩
  obtain ⟨cq, hcq⟩ : ∃ x, x = (v1 ys).num 7 := ⟨_, rfl⟩
  have HCS := Lib.hid hcs
  have HCQ := Lib.hid hcq
  clear hcs hcq
  refine (dget_any T r 1 ⟨ys, 0⟩ wa H.out.1 (.inl rfl)).mono ?_
  rw [← HCS.out]
  rintro e w1 ⟨rfl, hd⟩
  have HX := Lib.hid (H.out.read hd)
  clear hd
  have HFc := HX.out.2.1
  have x0 : w1.cell? ⟨g, 0, none⟩ = some (.int .i64 0) := HFc.cell 0
  have fx0 := HFc.frozen 0
  have lg := HFc.lt
  clear HFc
  go_wp2_with fail
  clear lg x0 fx0
  obtain ⟨wb, hwn⟩ : ∃ u, u = w1.setCell ⟨g, 0, none⟩ (.int .i64 cs) := ⟨_, rfl⟩
  replace H := Lib.hid (show DcAt W wb T z r g (v1 ys) ⟨cs, 0, ⟨0, 0, z32, 0, ByteArray.empty, 0⟩⟩ by rw [hwn]; exact HX.out.set (set_s 0 0 0 0 0 z32 ByteArray.empty 0 cs))
  rw [← hwn]
  clear hwn HX
  refine (dget_any T r 7 (v1 ys) wb H.out.1 (.inr (.inr rfl))).mono ?_
  rw [← HCQ.out]
  rintro e w2 ⟨rfl, hd⟩
  have HX := Lib.hid (H.out.read hd)
  clear hd
  have HFc := HX.out.2.1
  have x1 : w2.cell? ⟨g, 1, none⟩ = some (.int .i64 0) := HFc.cell 1
  have fx1 := HFc.frozen 1
  have lg := HFc.lt
  clear HFc
  go_wp2_with fail
  clear lg x1 fx1
  obtain ⟨wc, hwn⟩ : ∃ u, u = w2.setCell ⟨g, 1, none⟩ (.int .i64 cq) := ⟨_, rfl⟩
  replace H := Lib.hid (show DcAt W wc T z r g (v2 ys) ⟨cs, cq, ⟨0, 0, z32, 0, ByteArray.empty, 0⟩⟩ by rw [hwn]; exact HX.out.set (set_q cs 0 0 0 0 z32 ByteArray.empty 0 cq))
  rw [← hwn]
  clear hwn HX
  refine (dget_any T r 1 (v2 ys) wc H.out.1 (.inl rfl)).mono ?_
  rw [show (v2 ys).num 1 = kd from HKD.out]
  rintro e w3 ⟨rfl, hd⟩
  have HX := Lib.hid (H.out.read hd)
  clear hd
  have HFc := HX.out.2.1
  have x2 : w3.cell? ⟨g, 2, none⟩ = some (.int .i64 0) := HFc.cell 2
  have fx2 := HFc.frozen 2
  have lg := HFc.lt
  clear HFc
  go_wp2_with fail
  clear lg x2 fx2
  obtain ⟨wd, hwn⟩ : ∃ u, u = w3.setCell ⟨g, 2, none⟩ (.int .i64 kd) := ⟨_, rfl⟩
  replace H := Lib.hid (show DcAt W wd T z r g ((v2 ys).nx 1) ⟨cs, cq, ⟨kd, 0, z32, 0, ByteArray.empty, 0⟩⟩ by rw [hwn]; exact HX.out.set (set_kd cs cq 0 0 0 z32 ByteArray.empty 0 (kd)))
  rw [← hwn]
  clear hwn HX
  refine (dbad_any T r true 4 ((v2 ys).nx 1) wd H.out.1).mono ?_
  rintro e w4 ⟨rfl, hd⟩
  have HX := Lib.hid (H.out.read hd)
  rw [HVA.out] at HX
  clear hd
  have HFc := HX.out.2.1
  have x2 : w4.cell? ⟨g, 2, none⟩ = some (.int .i64 kd) := HFc.cell 2
  have lg := HFc.lt
  clear HFc
  go_upto_region 20 with fail
  clear lg x2 
  replace H := HX
  clear HX
  have K5 := Lib.hid hk5
  clear d1 d2 d3 d4 d5 hk5
  obtain ⟨co, hco⟩ : ∃ co, co = vC ys := ⟨_, rfl⟩
  have hcc : (⟨cs, cq, ⟨kd, 0, z32, 0, ByteArray.empty, 0⟩⟩ : Co) = co := by rw [hco]; unfold vC rop; rw [HKD.out, HCS.out, HCQ.out, if_neg (by have := K5.out; omega), if_neg (by have := K5.out; omega), if_neg (by have := K5.out; omega), if_neg (by have := K5.out; omega)]; rfl
  rw [hcc, show vA ys = vB ys from by unfold vB ropS; rw [HKD.out, if_neg (by have := K5.out; omega), if_neg (by have := K5.out; omega), if_neg (by have := K5.out; omega), if_neg (by have := K5.out; omega)]] at H
  have HCO := Lib.hid hco
  have HK := Lib.hid (show co.o.ks.length = 32 by rw [hco]; exact rop_ks _ _)
  have HFc := H.out.2.1
  clear hco hcc HFc
  obtain ⟨n, hn⟩ : ∃ n, n = (vB ys).l.length := ⟨_, rfl⟩
  have HN := Lib.hid hn
  obtain ⟨bad, hbad⟩ : ∃ b, b = (decide (0 < (n : Int)) || !(cmB co)) := ⟨_, rfl⟩
  have HBAD := Lib.hid (show (vB ys).fail bad 4 = vZ ys by rw [hbad, hn, HCO.out]; rfl)
  obtain ⟨hdr, _⟩ := H.out
  obtain ⟨_, _, _, hnl, A6, c6, hb6, hr6⟩ := hdr
  obtain ⟨b0, b1, f0, f1⟩ := blk2 hb6
  have hcap := hr6.cap
  unfold maxLen at hcap
  obtain ⟨_, hc1, hc2⟩ := hcap
  have lrb := hb6.lt
  rw [← hn] at b0 hnl hc1
  clear hb6 hr6 hn
  by_cases hpos : 0 < n
  · have hn2 : (0 : Int) < (n : Int) := by omega
    have eb : bad = true := by rw [hbad, decide_eq_true hn2]; rfl
    clear hbad
    rw [eb] at HBAD
    go_wp2_with fail
    clear b0 b1 f0 f1 lrb
    refine (dbad_any T r true 4 (vB ys) _ H.out.1).mono ?_
    rintro e w8 ⟨rfl, hd⟩
    replace H := Lib.hid (H.out.read hd)
    rw [HBAD.out] at H
    clear hd
    obtain ⟨hdr, hbc, hbz, hbw, _, _, _, hzr, _, hWz, _, _⟩ := H.out
    obtain ⟨_, _, _, _, A8, c8, hb8, _⟩ := hdr
    obtain ⟨b0, b1, f0, f1⟩ := blk2 hb8
    have lrb := hb8.lt
    have HC := Lib.hid hbc
    have HZ := Lib.hid hbz
    have HB := Lib.hid hbw
    have HWZ := Lib.hid hWz
    obtain ⟨E, hE⟩ : ∃ E, E = (vZ ys).e := ⟨_, rfl⟩
    have HE := Lib.hid hE
    rw [← hE] at b1
    clear hb8 hE hbc hbz hbw hWz
    by_cases h0 : E = 0
    · subst h0
      go_wp2_with (first | (refine step_load36 rfl (.tmp 5) rfl g rfl co HK.out (blk_range HC.out) ?_) | (refine step_store36 rfl (.tmp 2) (.tmp 105) rfl z rfl co HK.out rfl _ HZ.out (by simp [Co.len (c := zCo) z32_len]) ?_; intro w9 hb9 hm9 hs9; have HB9 := Lib.hid hb9; have HM9 := Lib.hid hm9; clear hb9 hm9 hs9) | fail)
      refine bodyPost_ret (v := .tuple #[co.v, .int .i64 0]) (by simp [results, Try.results25, asAddr, load36v HB9.out HK.out]) rfl ?_
      exact ⟨co, by rw [← HE.out], HK.out, HB.out.trans (HM9.out.below HB.out.size (fun i hi => by subst hi; exact HWZ.out)), .inl ⟨HE.out.symm, HCO.out⟩⟩
    · have hq : (E != 0) = true := by simpa using h0
      have hi := info36
      have hu := Try.underlying36
      have hth := there_of_blk HZ.out (o := 0) (n := 39) (by simp [Co.len (c := zCo) z32_len])
      have hne : r ≠ z := fun e => hzr e.symm
      have hh1 : zCo.L.toArray.all (·.oneCell') = true := all_one (l := zCo.L) zCo_one
      go_wp2_with fail
      refine wp_region_held_drew (S := (fun w' => w'.cell? ⟨r, 1, none⟩ = some (.int .i64 E))) (by kernel_rfl) (b1) (fun hHeld => ?_)
      refine wpAnyH_take (i := 0) (v := ?_) rfl (by kernel_rfl) (by kernel_rfl) (by kernel_rfl) (fun _ _ _ h => h) (Or.inl ⟨by kernel_rfl, ?_⟩) (by assumption) ?_
      rotate_left 1
      · (intro w hSw; (try dsimp only at hSw); go_simp; try with_reducible rfl)
      try simp only [Act.put, List.getElem_toArray, List.getElem_cons_succ, List.getElem_cons_zero, List.setIfInBounds_toArray, List.set_cons_zero, List.set_cons_succ]
      refine wpAnyH_take (i := 1) (v := ?_) rfl (by kernel_rfl) (by kernel_rfl) (by kernel_rfl) (fun _ _ _ h => h) (Or.inl ⟨by kernel_rfl, ?_⟩) (by assumption) ?_
      rotate_left 1
      · (intro w hSw; (try dsimp only at hSw); go_simp; try with_reducible rfl)
      try simp only [Act.put, List.getElem_toArray, List.getElem_cons_succ, List.getElem_cons_zero, List.setIfInBounds_toArray, List.set_cons_zero, List.set_cons_succ]
      refine wpAnyH_take (i := 2) (v := ?_) rfl (by kernel_rfl) (by kernel_rfl) (by kernel_rfl) (fun _ _ _ h => h) (Or.inl ⟨by kernel_rfl, ?_⟩) (by assumption) ?_
      rotate_left 1
      · (intro w hSw; (try dsimp only at hSw); go_simp; try with_reducible rfl)
      try simp only [Act.put, List.getElem_toArray, List.getElem_cons_succ, List.getElem_cons_zero, List.setIfInBounds_toArray, List.set_cons_zero, List.set_cons_succ]
      refine wpAnyH_take (i := 3) (v := ?_) rfl (by kernel_rfl) (by kernel_rfl) (by kernel_rfl) (fun _ _ _ h => h) (Or.inl ⟨by kernel_rfl, ?_⟩) (by assumption) ?_
      rotate_left 1
      · (intro w hSw; (try dsimp only at hSw); go_simp; try with_reducible rfl)
      try simp only [Act.put, List.getElem_toArray, List.getElem_cons_succ, List.getElem_cons_zero, List.setIfInBounds_toArray, List.set_cons_zero, List.set_cons_succ]
      refine wpAnyH_take (i := 4) (v := ?_) rfl (by kernel_rfl) (by kernel_rfl) (by kernel_rfl) (fun _ _ _ h => h) (Or.inl ⟨by kernel_rfl, ?_⟩) (by assumption) ?_
      rotate_left 1
      · (intro w hSw; (try dsimp only at hSw); go_simp; try with_reducible rfl)
      try simp only [Act.put, List.getElem_toArray, List.getElem_cons_succ, List.getElem_cons_zero, List.setIfInBounds_toArray, List.set_cons_zero, List.set_cons_succ]
      refine wpAnyH_ready (rs := [5]) (by kernel_rfl) (by simp) ?_
      refine AllReadyH.cons rfl (fun K hK => ?_) AllReadyH.nil
      refine wp_store_row 36 (.tmp 2) (.tmp 100) rfl z zCo.L.toArray rfl rfl 36 zCo.L.toArray HZ.out.drew (by rw [info36]; rfl) rfl hh1 ?_
      have HN9 := Lib.hid (show Blk (w8.drew.setRow z zCo.L.toArray) z 36 zCo.L.toArray from HZ.out.drew.setRow _)
      have HM9 := Lib.hid (show Mod (fun j => j = z) w8.drew (w8.drew.setRow z zCo.L.toArray) from (Mod.refl (fun j => j = z) w8.drew).setRow (.inl rfl) _)
      refine hK.out _ _ ((HM9.out.cell (p := ⟨r, 1, none⟩) (show w8.drew.cell? ⟨r, 1, none⟩ = some (.int .i64 E) from b1) hne)) (fun hHeld => ?_)
      clear hK K
      try simp only [Act.put, List.getElem_toArray, List.getElem_cons_succ, List.getElem_cons_zero, List.setIfInBounds_toArray, List.set_cons_zero, List.set_cons_succ]
      refine wpAnyH_take (i := 6) (v := ?_) rfl (by kernel_rfl) (by kernel_rfl) (by kernel_rfl) (fun _ _ _ h => h) (Or.inl ⟨by kernel_rfl, ?_⟩) (by assumption) ?_
      rotate_left 1
      · (intro w hSw; (try dsimp only at hSw); go_simp; try with_reducible rfl)
      try simp only [Act.put, List.getElem_toArray, List.getElem_cons_succ, List.getElem_cons_zero, List.setIfInBounds_toArray, List.set_cons_zero, List.set_cons_succ]
      refine wpAnyH_done (by kernel_rfl) ?_ _
      go_wp2_with fail
      refine bodyPost_ret (v := .tuple #[zCo.v, .int .i64 E]) (by simp [results, Try.results25, asAddr, load36v HN9.out (show zCo.o.ks.length = 32 from z32_len)]) rfl ?_
      exact ⟨zCo, by rw [← HE.out], z32_len, (Bd HB.out).trans (HM9.out.below (Bd HB.out).size (fun i hi => by subst hi; exact HWZ.out)), .inr ⟨by rw [← HE.out]; exact h0, rfl⟩⟩

  · have hn0 : n = 0 := by omega
    subst hn0
    obtain ⟨cm, hcm⟩ : ∃ cm, cm = cmB co := ⟨_, rfl⟩
    have eb : bad = !cm := by rw [hbad, decide_eq_false (by omega), ← hcm]; rfl
    have HCM := Lib.hid hcm
    clear hbad hcm
    rw [eb] at HBAD
    have HC6 := Lib.hid H.out.2.1
    go_wp2_with (first | (refine step_load36 (by first | rfl | simp [Region.wanted, yielded]) (.tmp 5) rfl g rfl co HK.out (blk_range HC6.out) ?_) | fail)
    refine (refmay_any co _ HK.out).mono ?_
    rw [← HCM.out]
    rintro e w7b ⟨rfl, hbm⟩
    replace H := Lib.hid (H.out.later hbm)
    clear hbm b0 b1 f0 f1 lrb HC6
    go_wp2_with fail
    refine (dbad_any T r (!cm) 4 (vB ys) _ H.out.1).mono ?_
    rintro e w8 ⟨rfl, hd⟩
    replace H := Lib.hid (H.out.read hd)
    rw [HBAD.out] at H
    clear hd
    obtain ⟨hdr, hbc, hbz, hbw, _, _, _, hzr, _, hWz, _, _⟩ := H.out
    obtain ⟨_, _, _, _, A8, c8, hb8, _⟩ := hdr
    obtain ⟨b0, b1, f0, f1⟩ := blk2 hb8
    have lrb := hb8.lt
    have HC := Lib.hid hbc
    have HZ := Lib.hid hbz
    have HB := Lib.hid hbw
    have HWZ := Lib.hid hWz
    obtain ⟨E, hE⟩ : ∃ E, E = (vZ ys).e := ⟨_, rfl⟩
    have HE := Lib.hid hE
    rw [← hE] at b1
    clear hb8 hE hbc hbz hbw hWz
    by_cases h0 : E = 0
    · subst h0
      go_wp2_with (first | (refine step_load36 rfl (.tmp 5) rfl g rfl co HK.out (blk_range HC.out) ?_) | (refine step_store36 rfl (.tmp 2) (.tmp 105) rfl z rfl co HK.out rfl _ HZ.out (by simp [Co.len (c := zCo) z32_len]) ?_; intro w9 hb9 hm9 hs9; have HB9 := Lib.hid hb9; have HM9 := Lib.hid hm9; clear hb9 hm9 hs9) | fail)
      refine bodyPost_ret (v := .tuple #[co.v, .int .i64 0]) (by simp [results, Try.results25, asAddr, load36v HB9.out HK.out]) rfl ?_
      exact ⟨co, by rw [← HE.out], HK.out, HB.out.trans (HM9.out.below HB.out.size (fun i hi => by subst hi; exact HWZ.out)), .inl ⟨HE.out.symm, HCO.out⟩⟩
    · have hq : (E != 0) = true := by simpa using h0
      have hi := info36
      have hu := Try.underlying36
      have hth := there_of_blk HZ.out (o := 0) (n := 39) (by simp [Co.len (c := zCo) z32_len])
      have hne : r ≠ z := fun e => hzr e.symm
      have hh1 : zCo.L.toArray.all (·.oneCell') = true := all_one (l := zCo.L) zCo_one
      go_wp2_with fail
      refine wp_region_held_drew (S := (fun w' => w'.cell? ⟨r, 1, none⟩ = some (.int .i64 E))) (by kernel_rfl) (b1) (fun hHeld => ?_)
      refine wpAnyH_take (i := 0) (v := ?_) rfl (by kernel_rfl) (by kernel_rfl) (by kernel_rfl) (fun _ _ _ h => h) (Or.inl ⟨by kernel_rfl, ?_⟩) (by assumption) ?_
      rotate_left 1
      · (intro w hSw; (try dsimp only at hSw); go_simp; try with_reducible rfl)
      try simp only [Act.put, List.getElem_toArray, List.getElem_cons_succ, List.getElem_cons_zero, List.setIfInBounds_toArray, List.set_cons_zero, List.set_cons_succ]
      refine wpAnyH_take (i := 1) (v := ?_) rfl (by kernel_rfl) (by kernel_rfl) (by kernel_rfl) (fun _ _ _ h => h) (Or.inl ⟨by kernel_rfl, ?_⟩) (by assumption) ?_
      rotate_left 1
      · (intro w hSw; (try dsimp only at hSw); go_simp; try with_reducible rfl)
      try simp only [Act.put, List.getElem_toArray, List.getElem_cons_succ, List.getElem_cons_zero, List.setIfInBounds_toArray, List.set_cons_zero, List.set_cons_succ]
      refine wpAnyH_take (i := 2) (v := ?_) rfl (by kernel_rfl) (by kernel_rfl) (by kernel_rfl) (fun _ _ _ h => h) (Or.inl ⟨by kernel_rfl, ?_⟩) (by assumption) ?_
      rotate_left 1
      · (intro w hSw; (try dsimp only at hSw); go_simp; try with_reducible rfl)
      try simp only [Act.put, List.getElem_toArray, List.getElem_cons_succ, List.getElem_cons_zero, List.setIfInBounds_toArray, List.set_cons_zero, List.set_cons_succ]
      refine wpAnyH_take (i := 3) (v := ?_) rfl (by kernel_rfl) (by kernel_rfl) (by kernel_rfl) (fun _ _ _ h => h) (Or.inl ⟨by kernel_rfl, ?_⟩) (by assumption) ?_
      rotate_left 1
      · (intro w hSw; (try dsimp only at hSw); go_simp; try with_reducible rfl)
      try simp only [Act.put, List.getElem_toArray, List.getElem_cons_succ, List.getElem_cons_zero, List.setIfInBounds_toArray, List.set_cons_zero, List.set_cons_succ]
      refine wpAnyH_take (i := 4) (v := ?_) rfl (by kernel_rfl) (by kernel_rfl) (by kernel_rfl) (fun _ _ _ h => h) (Or.inl ⟨by kernel_rfl, ?_⟩) (by assumption) ?_
      rotate_left 1
      · (intro w hSw; (try dsimp only at hSw); go_simp; try with_reducible rfl)
      try simp only [Act.put, List.getElem_toArray, List.getElem_cons_succ, List.getElem_cons_zero, List.setIfInBounds_toArray, List.set_cons_zero, List.set_cons_succ]
      refine wpAnyH_ready (rs := [5]) (by kernel_rfl) (by simp) ?_
      refine AllReadyH.cons rfl (fun K hK => ?_) AllReadyH.nil
      refine wp_store_row 36 (.tmp 2) (.tmp 100) rfl z zCo.L.toArray rfl rfl 36 zCo.L.toArray HZ.out.drew (by rw [info36]; rfl) rfl hh1 ?_
      have HN9 := Lib.hid (show Blk (w8.drew.setRow z zCo.L.toArray) z 36 zCo.L.toArray from HZ.out.drew.setRow _)
      have HM9 := Lib.hid (show Mod (fun j => j = z) w8.drew (w8.drew.setRow z zCo.L.toArray) from (Mod.refl (fun j => j = z) w8.drew).setRow (.inl rfl) _)
      refine hK.out _ _ ((HM9.out.cell (p := ⟨r, 1, none⟩) (show w8.drew.cell? ⟨r, 1, none⟩ = some (.int .i64 E) from b1) hne)) (fun hHeld => ?_)
      clear hK K
      try simp only [Act.put, List.getElem_toArray, List.getElem_cons_succ, List.getElem_cons_zero, List.setIfInBounds_toArray, List.set_cons_zero, List.set_cons_succ]
      refine wpAnyH_take (i := 6) (v := ?_) rfl (by kernel_rfl) (by kernel_rfl) (by kernel_rfl) (fun _ _ _ h => h) (Or.inl ⟨by kernel_rfl, ?_⟩) (by assumption) ?_
      rotate_left 1
      · (intro w hSw; (try dsimp only at hSw); go_simp; try with_reducible rfl)
      try simp only [Act.put, List.getElem_toArray, List.getElem_cons_succ, List.getElem_cons_zero, List.setIfInBounds_toArray, List.set_cons_zero, List.set_cons_succ]
      refine wpAnyH_done (by kernel_rfl) ?_ _
      go_wp2_with fail
      refine bodyPost_ret (v := .tuple #[zCo.v, .int .i64 E]) (by simp [results, Try.results25, asAddr, load36v HN9.out (show zCo.o.ks.length = 32 from z32_len)]) rfl ?_
      exact ⟨zCo, by rw [← HE.out], z32_len, (Bd HB.out).trans (HM9.out.below (Bd HB.out).size (fun i hi => by subst hi; exact HWZ.out)), .inr ⟨by rw [← HE.out]; exact h0, rfl⟩⟩
end
end Go.Proofs.Ytnphnaggamfoiaa
