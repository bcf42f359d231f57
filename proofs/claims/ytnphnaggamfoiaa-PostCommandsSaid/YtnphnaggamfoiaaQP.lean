/- O5e, O5f, O5g, O6 in one text. -/
import Derived.Test.YtnphnaggamfoiaaQO
import Derived.Test.YtnphnaggamfoiaaN2
import Derived.Test.YtnphnaggamfoiaaQP1
import Derived.Test.YtnphnaggamfoiaaQN
namespace Go.Proofs.Ytnphnaggamfoiaa
open Go.RowKit
set_option maxRecDepth 20000
set_option linter.unusedVariables false
set_option linter.unusedSimpArgs false
section
set_option maxHeartbeats 8000000 in
theorem refcmd_k1 (T : Nat → Prop) (A : Option Addr) (c : Nat) (ys : List Int) (W : World) (hr : Rd W T 1 (.slice A ys.length c) ys.length (bts ys)) (hT : ∀ i, T i → i < W.heap.size) (hb : Byt ys) (hl : ys.length ≤ 140737488351232) (hkd : vKd ys = 1) :
    Calls Try.prog 25 #[.slice A ys.length c] W (CmDid ys W) := by
  obtain ⟨z, hz⟩ : ∃ z, z = W.heap.size := ⟨_, rfl⟩
  obtain ⟨r, hrr⟩ : ∃ r, r = W.heap.size + 1 := ⟨_, rfl⟩
  obtain ⟨g, hg⟩ : ∃ g, g = W.heap.size + 1 + 1 := ⟨_, rfl⟩
  obtain ⟨wa, hwa⟩ : ∃ wa, wa = ((W.alloc (.cells zCo.L.toArray 36)).alloc (.cells #[.slice A ys.length c, .int .i64 0] 83)).alloc (.cells zCo.L.toArray 36) := ⟨_, rfl⟩
  have H := Lib.hid (show DcAt W wa T z r g ⟨ys, 0⟩ zCo by
    rw [hwa, hz, hrr, hg]
    have hbl := Ba (Ba (Ba (B0 W) (.cells zCo.L.toArray 36)) (.cells #[.slice A ys.length c, .int .i64 0] 83)) (.cells zCo.L.toArray 36)
    exact ⟨⟨fun i hi => Nat.lt_of_lt_of_le (hT i hi) hbl.size, fun h => by have := hT _ h; omega, hb, hl, A, c, (Blk.new1 W _ _ _).alloc _, hr.below hbl hT⟩, Blk.new2 W _ _ _ _, ((Blk.new W _ _).alloc _).alloc _, hbl, fun h => by have := hT _ h; omega, fun h => by have := hT _ h; omega, by omega, by omega, by omega, by omega, by omega, by omega⟩)
  have HWA := Lib.hid hwa
  have HZQ := Lib.hid hz
  have HRR := Lib.hid hrr
  have HG := Lib.hid hg
  have HKD := Lib.hid hkd
  have HVA : Hid (((v2 ys).nx 1).fail false 4 = vA ys) := Lib.hid (by unfold vA; rw [hkd]; rfl)
  clear hr hT hb hl hz hrr hg hwa hkd
  go_enter Try.func25, Try.ntmps25
  go_wp2_with fail
  change Calls _ _ _ (((W.alloc (.cells zCo.L.toArray 36)).alloc (.cells #[.slice A ys.length c, .int .i64 0] 83)).alloc (.cells zCo.L.toArray 36)) _
  rw [← HG.out, ← HRR.out, ← HZQ.out, ← HWA.out]
  obtain ⟨cs, hcs⟩ : ∃ x, x = (⟨ys, 0⟩ : St).num 1 := ⟨_, rfl⟩
  obtain ⟨cq, hcq⟩ : ∃ x, x = (v1 ys).num 7 := ⟨_, rfl⟩
  have HCS := Lib.hid hcs
  have HCQ := Lib.hid hcq
  clear hcs hcq
  refine (dget_any T r 1 ⟨ys, 0⟩ wa H.out.1 (.inl rfl)).mono ?_
  rw [← HCS.out]
  rintro e w1 ⟨rfl, hd⟩
  have HX := Lib.hid (H.out.read hd)
  clear hd
  have HFc := HX.out.2.1
  have x0 : w1.cell? ⟨g, 0, none⟩ = some (.int .i64 0) := HFc.cell 0
  have fx0 := HFc.frozen 0
  have lg := HFc.lt
  clear HFc
  go_wp2_with fail
  clear lg x0 fx0
  obtain ⟨wb, hwn⟩ : ∃ u, u = w1.setCell ⟨g, 0, none⟩ (.int .i64 cs) := ⟨_, rfl⟩
  replace H := Lib.hid (show DcAt W wb T z r g (v1 ys) ⟨cs, 0, ⟨0, 0, z32, 0, ByteArray.empty, 0⟩⟩ by rw [hwn]; exact HX.out.set (set_s 0 0 0 0 0 z32 ByteArray.empty 0 cs))
  rw [← hwn]
  clear hwn HX
  refine (dget_any T r 7 (v1 ys) wb H.out.1 (.inr (.inr rfl))).mono ?_
  rw [← HCQ.out]
  rintro e w2 ⟨rfl, hd⟩
  have HX := Lib.hid (H.out.read hd)
  clear hd
  have HFc := HX.out.2.1
  have x1 : w2.cell? ⟨g, 1, none⟩ = some (.int .i64 0) := HFc.cell 1
  have fx1 := HFc.frozen 1
  have lg := HFc.lt
  clear HFc
  go_wp2_with fail
  clear lg x1 fx1
  obtain ⟨wc, hwn⟩ : ∃ u, u = w2.setCell ⟨g, 1, none⟩ (.int .i64 cq) := ⟨_, rfl⟩
  replace H := Lib.hid (show DcAt W wc T z r g (v2 ys) ⟨cs, cq, ⟨0, 0, z32, 0, ByteArray.empty, 0⟩⟩ by rw [hwn]; exact HX.out.set (set_q cs 0 0 0 0 z32 ByteArray.empty 0 cq))
  rw [← hwn]
  clear hwn HX
  refine (dget_any T r 1 (v2 ys) wc H.out.1 (.inl rfl)).mono ?_
  rw [show (v2 ys).num 1 = 1 from HKD.out]
  rintro e w3 ⟨rfl, hd⟩
  have HX := Lib.hid (H.out.read hd)
  clear hd
  have HFc := HX.out.2.1
  have x2 : w3.cell? ⟨g, 2, none⟩ = some (.int .i64 0) := HFc.cell 2
  have fx2 := HFc.frozen 2
  have lg := HFc.lt
  clear HFc
  go_wp2_with fail
  clear lg x2 fx2
  obtain ⟨wd, hwn⟩ : ∃ u, u = w3.setCell ⟨g, 2, none⟩ (.int .i64 1) := ⟨_, rfl⟩
  replace H := Lib.hid (show DcAt W wd T z r g ((v2 ys).nx 1) ⟨cs, cq, ⟨1, 0, z32, 0, ByteArray.empty, 0⟩⟩ by rw [hwn]; exact HX.out.set (set_kd cs cq 0 0 0 z32 ByteArray.empty 0 (1)))
  rw [← hwn]
  clear hwn HX
  refine (dbad_any T r false 4 ((v2 ys).nx 1) wd H.out.1).mono ?_
  rintro e w4 ⟨rfl, hd⟩
  have HX := Lib.hid (H.out.read hd)
  rw [HVA.out] at HX
  clear hd
  have HFc := HX.out.2.1
  have x2 : w4.cell? ⟨g, 2, none⟩ = some (.int .i64 1) := HFc.cell 2
  have lg := HFc.lt
  clear HFc
  go_wp2_with fail
  clear lg x2 
  replace H := HX
  clear HX
  obtain ⟨nd, hnd0⟩ : ∃ nd, nd = (vA ys).num 1 := ⟨_, rfl⟩
  have hnd := Lib.hid hnd0
  clear hnd0
  refine (dget_any T r 1 (vA ys) w4 H.out.1 (.inl rfl)).mono ?_
  rw [← hnd.out]
  rintro e w5 ⟨rfl, hd⟩
  have HX := Lib.hid (H.out.read hd)
  clear hd
  have HFc := HX.out.2.1
  have x2 : w5.cell? ⟨g, 2, none⟩ = some (.int .i64 1) := HFc.cell 2
  have x3 : w5.cell? ⟨g, 3, none⟩ = some (.int .i64 0) := HFc.cell 3
  have fx3 := HFc.frozen 3
  have lg := HFc.lt
  clear HFc
  go_wp2_with fail
  clear lg x2 x3 fx3
  obtain ⟨w6, hwn⟩ : ∃ u, u = w5.setCell ⟨g, 3, none⟩ (.int .i64 nd) := ⟨_, rfl⟩
  replace H := Lib.hid (show DcAt W w6 T z r g ((vA ys).nx 1) ⟨cs, cq, ⟨1, nd, z32, 0, ByteArray.empty, 0⟩⟩ by rw [hwn]; exact HX.out.set (set_nd cs cq 1 0 0 z32 ByteArray.empty 0 nd))
  rw [← hwn]
  clear hwn HX
  have HND := hnd
  clear hnd
  have hsl := some_len ((vA ys).nx 1)
  refine (dtake_any T r 32 ((vA ys).nx 1) w6 H.out.1 (by omega)).mono ?_
  obtain ⟨xs, hxs⟩ : ∃ xs, xs = ((vA ys).nx 1).some 32 := ⟨_, rfl⟩
  obtain ⟨s2, hs2⟩ : ∃ s2, s2 = ((vA ys).nx 1).sk 32 := ⟨_, rfl⟩
  rw [show ((32 : Nat) : Int) = 32 from rfl, ← hxs, ← hs2]
  rw [← hxs] at hsl
  have HXS := Lib.hid hxs
  have HS2 := Lib.hid hs2
  have HSL := Lib.hid hsl
  have hle : xs.length ≤ 32 := by rcases hsl with h | h <;> simp [h]
  clear hxs hs2 hsl
  rintro e w7 ⟨A7, c7, rfl, hrd, hd⟩
  have HX := Lib.hid (H.out.read hd)
  have HRD := Lib.hid hrd
  have hcap := hrd.cap
  unfold maxLen at hcap
  obtain ⟨_, hc1, hc2⟩ := hcap
  clear hd hrd
  go_wp2_with fail
  go_loopw [7] (fun i wr => ∃ k : Nat, k ≤ xs.length ∧ i = .int .i64 k ∧ DcAt W wr T z r g s2 ⟨cs, cq, ⟨1, nd, keyK xs k, 0, ByteArray.empty, 0⟩⟩ ∧ Rd wr T 1 (.slice A7 xs.length c7) xs.length (bts xs)) (fun i _ => xs.length - (intOf i).toNat)
  case atStart => exact ⟨0, by omega, rfl, by rw [keyK_zero]; exact HX.out, HRD.out⟩
  case round =>
    obtain ⟨k, hk, rfl, hdc, hrd⟩ := hrel
    clear HX HRD
    have HX := Lib.hid hdc
    have HRD := Lib.hid hrd
    clear hdc hrd
    by_cases hlt : k < xs.length
    · have hlt' : (k : Int) < (xs.length : Int) := by omega
      have hk0 : (0 : Int) ≤ (k : Int) := by omega
      have hk32 : (k : Int) < 32 := by omega
      obtain ⟨gx, ox, hA, hgx, hcc⟩ := HRD.out.some_ (by omega)
      subst hA
      obtain ⟨x, hx⟩ : ∃ x, x = xs[k] := ⟨_, rfl⟩
      have d0 : wr.cell? ⟨gx, ox + k, none⟩ = some (.int .u8 x) := hcc k _ (by rw [bts_getElem? xs k hlt, hx])
      have d1 := (HX.out.2.1.cell (4 + k)).trans (Co.key_cell (c := ⟨cs, cq, ⟨1, nd, keyK xs k, 0, ByteArray.empty, 0⟩⟩) (show k < (keyK xs k).length by rw [keyK_len hk hle]; omega))
      have fd1 := HX.out.2.1.frozen (4 + k)
      have lg := HX.out.2.1.lt
      have HXX := Lib.hid hx
      clear hcc hx
      go_wp2_with fail
      go_roundw
      case rel =>
        have hS4 : ¬ T g := HX.out.2.2.2.2.1
        have m1 : Mod (fun i => i = g) wr (wr.setCell ⟨g, 4 + k, none⟩ (.int .u8 x)) := (Mod.refl (fun i => i = g) wr).setCell (p := ⟨g, 4 + k, none⟩) (.inl rfl) _
        refine ⟨k + 1, by omega, by go_num, HX.out.set ?_, HRD.out.kept m1 (fun i hi e => hS4 (e ▸ hi))⟩
        rw [set_key _ _ _ _ _ _ _ _ _ (by rw [keyK_len hk hle]; omega), HXX.out, keyK_set hlt hle]
      case measure => simp [intOf]; omega
    · obtain rfl : k = xs.length := by omega
      rw [keyK_end HSL.out] at HX
      have HKL := Lib.hid (show (keyZ xs).length = 32 by rw [HXS.out]; exact keyZ_len _)
      obtain ⟨ks, hks⟩ : ∃ ks, ks = keyZ xs := ⟨_, rfl⟩
      rw [← hks] at HX HKL
      have HKS := Lib.hid hks
      clear hks hk hlt
      go_wp2_with fail
      replace H := HX
      clear HX
      obtain ⟨ex, hex0⟩ : ∃ ex, ex = s2.num 7 := ⟨_, rfl⟩
      have hex := Lib.hid hex0
      clear hex0
      refine (dget_any T r 7 s2 wr H.out.1 (.inr (.inr rfl))).mono ?_
      rw [← hex.out]
      rintro e w8 ⟨rfl, hd⟩
      have HX := Lib.hid (H.out.read hd)
      clear hd
      have HFc := HX.out.2.1
      have x2 : w8.cell? ⟨g, 2, none⟩ = some (.int .i64 1) := HFc.cell 2
      have x36 : w8.cell? ⟨g, 36, none⟩ = some (.int .i64 0) := (HFc.cell 36).trans (Co.at36 (c := ⟨cs, cq, ⟨1, nd, ks, 0, ByteArray.empty, 0⟩⟩) HKL.out)
      have fx36 := HFc.frozen 36
      have lg := HFc.lt
      clear HFc
      go_upto_region 20 with fail
      clear lg x2 x36 fx36
      obtain ⟨w9, hwn⟩ : ∃ u, u = w8.setCell ⟨g, 36, none⟩ (.int .i64 ex) := ⟨_, rfl⟩
      replace H := Lib.hid (show DcAt W w9 T z r g (s2.nx 7) ⟨cs, cq, ⟨1, nd, ks, ex, ByteArray.empty, 0⟩⟩ by rw [hwn]; exact HX.out.set (set_ex cs cq 1 nd 0 ks HKL.out ByteArray.empty 0 ex))
      rw [← hwn]
      clear hwn HX
      obtain ⟨co, hco⟩ : ∃ co, co = vC ys := ⟨_, rfl⟩
      have hcc : (⟨cs, cq, ⟨1, nd, ks, ex, ByteArray.empty, 0⟩⟩ : Co) = co := by rw [hco]; unfold vC rop; rw [HKD.out, HCS.out, HCQ.out, hex.out, HKS.out, HXS.out, HND.out, HS2.out]; rfl
      rw [hcc, show s2.nx 7 = vB ys from by unfold vB ropS; rw [HKD.out, HS2.out]; rfl] at H
      have HCO := Lib.hid hco
      have HK := Lib.hid (show co.o.ks.length = 32 by rw [hco]; exact rop_ks _ _)
      have HFc := H.out.2.1
      clear hco hcc HFc
      clear hex
      obtain ⟨n, hn⟩ : ∃ n, n = (vB ys).l.length := ⟨_, rfl⟩
      have HN := Lib.hid hn
      obtain ⟨bad, hbad⟩ : ∃ b, b = (decide (0 < (n : Int)) || !(cmB co)) := ⟨_, rfl⟩
      have HBAD := Lib.hid (show (vB ys).fail bad 4 = vZ ys by rw [hbad, hn, HCO.out]; rfl)
      obtain ⟨hdr, _⟩ := H.out
      obtain ⟨_, _, _, hnl, A6, c6, hb6, hr6⟩ := hdr
      obtain ⟨b0, b1, f0, f1⟩ := blk2 hb6
      have hcap := hr6.cap
      unfold maxLen at hcap
      obtain ⟨_, hc1, hc2⟩ := hcap
      have lrb := hb6.lt
      rw [← hn] at b0 hnl hc1
      clear hb6 hr6 hn
      by_cases hpos : 0 < n
      · have hn2 : (0 : Int) < (n : Int) := by omega
        have eb : bad = true := by rw [hbad, decide_eq_true hn2]; rfl
        clear hbad
        rw [eb] at HBAD
        go_wp2_with fail
        clear b0 b1 f0 f1 lrb
        refine (dbad_any T r true 4 (vB ys) _ H.out.1).mono ?_
        rintro e w8 ⟨rfl, hd⟩
        replace H := Lib.hid (H.out.read hd)
        rw [HBAD.out] at H
        clear hd
        obtain ⟨hdr, hbc, hbz, hbw, _, _, _, hzr, _, hWz, _, _⟩ := H.out
        obtain ⟨_, _, _, _, A8, c8, hb8, _⟩ := hdr
        obtain ⟨b0, b1, f0, f1⟩ := blk2 hb8
        have lrb := hb8.lt
        have HC := Lib.hid hbc
        have HZ := Lib.hid hbz
        have HB := Lib.hid hbw
        have HWZ := Lib.hid hWz
        obtain ⟨E, hE⟩ : ∃ E, E = (vZ ys).e := ⟨_, rfl⟩
        have HE := Lib.hid hE
        rw [← hE] at b1
        clear hb8 hE hbc hbz hbw hWz
        by_cases h0 : E = 0
        · subst h0
          go_wp2_with (first | (refine step_load36 rfl (.tmp 5) rfl g rfl co HK.out (blk_range HC.out) ?_) | (refine step_store36 rfl (.tmp 2) (.tmp 105) rfl z rfl co HK.out rfl _ HZ.out (by simp [Co.len (c := zCo) z32_len]) ?_; intro w9 hb9 hm9 hs9; have HB9 := Lib.hid hb9; have HM9 := Lib.hid hm9; clear hb9 hm9 hs9) | fail)
          refine bodyPost_ret (v := .tuple #[co.v, .int .i64 0]) (by simp [results, Try.results25, asAddr, load36v HB9.out HK.out]) rfl ?_
          exact ⟨co, by rw [← HE.out], HK.out, HB.out.trans (HM9.out.below HB.out.size (fun i hi => by subst hi; exact HWZ.out)), .inl ⟨HE.out.symm, HCO.out⟩⟩
        · have hq : (E != 0) = true := by simpa using h0
          have hi := info36
          have hu := Try.underlying36
          have hth := there_of_blk HZ.out (o := 0) (n := 39) (by simp [Co.len (c := zCo) z32_len])
          have hne : r ≠ z := fun e => hzr e.symm
          have hh1 : zCo.L.toArray.all (·.oneCell') = true := all_one (l := zCo.L) zCo_one
          go_wp2_with fail
          refine wp_region_held_drew (S := (fun w' => w'.cell? ⟨r, 1, none⟩ = some (.int .i64 E))) (by kernel_rfl) (b1) (fun hHeld => ?_)
          refine wpAnyH_take (i := 0) (v := ?_) rfl (by kernel_rfl) (by kernel_rfl) (by kernel_rfl) (fun _ _ _ h => h) (Or.inl ⟨by kernel_rfl, ?_⟩) (by assumption) ?_
          rotate_left 1
          · (intro w hSw; (try dsimp only at hSw); go_simp; try with_reducible rfl)
          try simp only [Act.put, List.getElem_toArray, List.getElem_cons_succ, List.getElem_cons_zero, List.setIfInBounds_toArray, List.set_cons_zero, List.set_cons_succ]
          refine wpAnyH_take (i := 1) (v := ?_) rfl (by kernel_rfl) (by kernel_rfl) (by kernel_rfl) (fun _ _ _ h => h) (Or.inl ⟨by kernel_rfl, ?_⟩) (by assumption) ?_
          rotate_left 1
          · (intro w hSw; (try dsimp only at hSw); go_simp; try with_reducible rfl)
          try simp only [Act.put, List.getElem_toArray, List.getElem_cons_succ, List.getElem_cons_zero, List.setIfInBounds_toArray, List.set_cons_zero, List.set_cons_succ]
          refine wpAnyH_take (i := 2) (v := ?_) rfl (by kernel_rfl) (by kernel_rfl) (by kernel_rfl) (fun _ _ _ h => h) (Or.inl ⟨by kernel_rfl, ?_⟩) (by assumption) ?_
          rotate_left 1
          · (intro w hSw; (try dsimp only at hSw); go_simp; try with_reducible rfl)
          try simp only [Act.put, List.getElem_toArray, List.getElem_cons_succ, List.getElem_cons_zero, List.setIfInBounds_toArray, List.set_cons_zero, List.set_cons_succ]
          refine wpAnyH_take (i := 3) (v := ?_) rfl (by kernel_rfl) (by kernel_rfl) (by kernel_rfl) (fun _ _ _ h => h) (Or.inl ⟨by kernel_rfl, ?_⟩) (by assumption) ?_
          rotate_left 1
          · (intro w hSw; (try dsimp only at hSw); go_simp; try with_reducible rfl)
          try simp only [Act.put, List.getElem_toArray, List.getElem_cons_succ, List.getElem_cons_zero, List.setIfInBounds_toArray, List.set_cons_zero, List.set_cons_succ]
          refine wpAnyH_take (i := 4) (v := ?_) rfl (by kernel_rfl) (by kernel_rfl) (by kernel_rfl) (fun _ _ _ h => h) (Or.inl ⟨by kernel_rfl, ?_⟩) (by assumption) ?_
          rotate_left 1
          · (intro w hSw; (try dsimp only at hSw); go_simp; try with_reducible rfl)
          try simp only [Act.put, List.getElem_toArray, List.getElem_cons_succ, List.getElem_cons_zero, List.setIfInBounds_toArray, List.set_cons_zero, List.set_cons_succ]
          refine wpAnyH_ready (rs := [5]) (by kernel_rfl) (by simp) ?_
          refine AllReadyH.cons rfl (fun K hK => ?_) AllReadyH.nil
          refine wp_store_row 36 (.tmp 2) (.tmp 100) rfl z zCo.L.toArray rfl rfl 36 zCo.L.toArray HZ.out.drew (by rw [info36]; rfl) rfl hh1 ?_
          have HN9 := Lib.hid (show Blk (w8.drew.setRow z zCo.L.toArray) z 36 zCo.L.toArray from HZ.out.drew.setRow _)
          have HM9 := Lib.hid (show Mod (fun j => j = z) w8.drew (w8.drew.setRow z zCo.L.toArray) from (Mod.refl (fun j => j = z) w8.drew).setRow (.inl rfl) _)
          refine hK.out _ _ ((HM9.out.cell (p := ⟨r, 1, none⟩) (show w8.drew.cell? ⟨r, 1, none⟩ = some (.int .i64 E) from b1) hne)) (fun hHeld => ?_)
          clear hK K
          try simp only [Act.put, List.getElem_toArray, List.getElem_cons_succ, List.getElem_cons_zero, List.setIfInBounds_toArray, List.set_cons_zero, List.set_cons_succ]
          refine wpAnyH_take (i := 6) (v := ?_) rfl (by kernel_rfl) (by kernel_rfl) (by kernel_rfl) (fun _ _ _ h => h) (Or.inl ⟨by kernel_rfl, ?_⟩) (by assumption) ?_
          rotate_left 1
          · (intro w hSw; (try dsimp only at hSw); go_simp; try with_reducible rfl)
          try simp only [Act.put, List.getElem_toArray, List.getElem_cons_succ, List.getElem_cons_zero, List.setIfInBounds_toArray, List.set_cons_zero, List.set_cons_succ]
          refine wpAnyH_done (by kernel_rfl) ?_ _
          go_wp2_with fail
          refine bodyPost_ret (v := .tuple #[zCo.v, .int .i64 E]) (by simp [results, Try.results25, asAddr, load36v HN9.out (show zCo.o.ks.length = 32 from z32_len)]) rfl ?_
          exact ⟨zCo, by rw [← HE.out], z32_len, (Bd HB.out).trans (HM9.out.below (Bd HB.out).size (fun i hi => by subst hi; exact HWZ.out)), .inr ⟨by rw [← HE.out]; exact h0, rfl⟩⟩

      · have hn0 : n = 0 := by omega
        subst hn0
        obtain ⟨cm, hcm⟩ : ∃ cm, cm = cmB co := ⟨_, rfl⟩
        have eb : bad = !cm := by rw [hbad, decide_eq_false (by omega), ← hcm]; rfl
        have HCM := Lib.hid hcm
        clear hbad hcm
        rw [eb] at HBAD
        have HC6 := Lib.hid H.out.2.1
        go_wp2_with (first | (refine step_load36 (by first | rfl | simp [Region.wanted, yielded]) (.tmp 5) rfl g rfl co HK.out (blk_range HC6.out) ?_) | fail)
        refine (refmay_any co _ HK.out).mono ?_
        rw [← HCM.out]
        rintro e w7b ⟨rfl, hbm⟩
        replace H := Lib.hid (H.out.later hbm)
        clear hbm b0 b1 f0 f1 lrb HC6
        go_wp2_with fail
        refine (dbad_any T r (!cm) 4 (vB ys) _ H.out.1).mono ?_
        rintro e w8 ⟨rfl, hd⟩
        replace H := Lib.hid (H.out.read hd)
        rw [HBAD.out] at H
        clear hd
        obtain ⟨hdr, hbc, hbz, hbw, _, _, _, hzr, _, hWz, _, _⟩ := H.out
        obtain ⟨_, _, _, _, A8, c8, hb8, _⟩ := hdr
        obtain ⟨b0, b1, f0, f1⟩ := blk2 hb8
        have lrb := hb8.lt
        have HC := Lib.hid hbc
        have HZ := Lib.hid hbz
        have HB := Lib.hid hbw
        have HWZ := Lib.hid hWz
        obtain ⟨E, hE⟩ : ∃ E, E = (vZ ys).e := ⟨_, rfl⟩
        have HE := Lib.hid hE
        rw [← hE] at b1
        clear hb8 hE hbc hbz hbw hWz
        by_cases h0 : E = 0
        · subst h0
          go_wp2_with (first | (refine step_load36 rfl (.tmp 5) rfl g rfl co HK.out (blk_range HC.out) ?_) | (refine step_store36 rfl (.tmp 2) (.tmp 105) rfl z rfl co HK.out rfl _ HZ.out (by simp [Co.len (c := zCo) z32_len]) ?_; intro w9 hb9 hm9 hs9; have HB9 := Lib.hid hb9; have HM9 := Lib.hid hm9; clear hb9 hm9 hs9) | fail)
          refine bodyPost_ret (v := .tuple #[co.v, .int .i64 0]) (by simp [results, Try.results25, asAddr, load36v HB9.out HK.out]) rfl ?_
          exact ⟨co, by rw [← HE.out], HK.out, HB.out.trans (HM9.out.below HB.out.size (fun i hi => by subst hi; exact HWZ.out)), .inl ⟨HE.out.symm, HCO.out⟩⟩
        · have hq : (E != 0) = true := by simpa using h0
          have hi := info36
          have hu := Try.underlying36
          have hth := there_of_blk HZ.out (o := 0) (n := 39) (by simp [Co.len (c := zCo) z32_len])
          have hne : r ≠ z := fun e => hzr e.symm
          have hh1 : zCo.L.toArray.all (·.oneCell') = true := all_one (l := zCo.L) zCo_one
          go_wp2_with fail
          refine wp_region_held_drew (S := (fun w' => w'.cell? ⟨r, 1, none⟩ = some (.int .i64 E))) (by kernel_rfl) (b1) (fun hHeld => ?_)
          refine wpAnyH_take (i := 0) (v := ?_) rfl (by kernel_rfl) (by kernel_rfl) (by kernel_rfl) (fun _ _ _ h => h) (Or.inl ⟨by kernel_rfl, ?_⟩) (by assumption) ?_
          rotate_left 1
          · (intro w hSw; (try dsimp only at hSw); go_simp; try with_reducible rfl)
          try simp only [Act.put, List.getElem_toArray, List.getElem_cons_succ, List.getElem_cons_zero, List.setIfInBounds_toArray, List.set_cons_zero, List.set_cons_succ]
          refine wpAnyH_take (i := 1) (v := ?_) rfl (by kernel_rfl) (by kernel_rfl) (by kernel_rfl) (fun _ _ _ h => h) (Or.inl ⟨by kernel_rfl, ?_⟩) (by assumption) ?_
          rotate_left 1
          · (intro w hSw; (try dsimp only at hSw); go_simp; try with_reducible rfl)
          try simp only [Act.put, List.getElem_toArray, List.getElem_cons_succ, List.getElem_cons_zero, List.setIfInBounds_toArray, List.set_cons_zero, List.set_cons_succ]
          refine wpAnyH_take (i := 2) (v := ?_) rfl (by kernel_rfl) (by kernel_rfl) (by kernel_rfl) (fun _ _ _ h => h) (Or.inl ⟨by kernel_rfl, ?_⟩) (by assumption) ?_
          rotate_left 1
          · (intro w hSw; (try dsimp only at hSw); go_simp; try with_reducible rfl)
          try simp only [Act.put, List.getElem_toArray, List.getElem_cons_succ, List.getElem_cons_zero, List.setIfInBounds_toArray, List.set_cons_zero, List.set_cons_succ]
          refine wpAnyH_take (i := 3) (v := ?_) rfl (by kernel_rfl) (by kernel_rfl) (by kernel_rfl) (fun _ _ _ h => h) (Or.inl ⟨by kernel_rfl, ?_⟩) (by assumption) ?_
          rotate_left 1
          · (intro w hSw; (try dsimp only at hSw); go_simp; try with_reducible rfl)
          try simp only [Act.put, List.getElem_toArray, List.getElem_cons_succ, List.getElem_cons_zero, List.setIfInBounds_toArray, List.set_cons_zero, List.set_cons_succ]
          refine wpAnyH_take (i := 4) (v := ?_) rfl (by kernel_rfl) (by kernel_rfl) (by kernel_rfl) (fun _ _ _ h => h) (Or.inl ⟨by kernel_rfl, ?_⟩) (by assumption) ?_
          rotate_left 1
          · (intro w hSw; (try dsimp only at hSw); go_simp; try with_reducible rfl)
          try simp only [Act.put, List.getElem_toArray, List.getElem_cons_succ, List.getElem_cons_zero, List.setIfInBounds_toArray, List.set_cons_zero, List.set_cons_succ]
          refine wpAnyH_ready (rs := [5]) (by kernel_rfl) (by simp) ?_
          refine AllReadyH.cons rfl (fun K hK => ?_) AllReadyH.nil
          refine wp_store_row 36 (.tmp 2) (.tmp 100) rfl z zCo.L.toArray rfl rfl 36 zCo.L.toArray HZ.out.drew (by rw [info36]; rfl) rfl hh1 ?_
          have HN9 := Lib.hid (show Blk (w8.drew.setRow z zCo.L.toArray) z 36 zCo.L.toArray from HZ.out.drew.setRow _)
          have HM9 := Lib.hid (show Mod (fun j => j = z) w8.drew (w8.drew.setRow z zCo.L.toArray) from (Mod.refl (fun j => j = z) w8.drew).setRow (.inl rfl) _)
          refine hK.out _ _ ((HM9.out.cell (p := ⟨r, 1, none⟩) (show w8.drew.cell? ⟨r, 1, none⟩ = some (.int .i64 E) from b1) hne)) (fun hHeld => ?_)
          clear hK K
          try simp only [Act.put, List.getElem_toArray, List.getElem_cons_succ, List.getElem_cons_zero, List.setIfInBounds_toArray, List.set_cons_zero, List.set_cons_succ]
          refine wpAnyH_take (i := 6) (v := ?_) rfl (by kernel_rfl) (by kernel_rfl) (by kernel_rfl) (fun _ _ _ h => h) (Or.inl ⟨by kernel_rfl, ?_⟩) (by assumption) ?_
          rotate_left 1
          · (intro w hSw; (try dsimp only at hSw); go_simp; try with_reducible rfl)
          try simp only [Act.put, List.getElem_toArray, List.getElem_cons_succ, List.getElem_cons_zero, List.setIfInBounds_toArray, List.set_cons_zero, List.set_cons_succ]
          refine wpAnyH_done (by kernel_rfl) ?_ _
          go_wp2_with fail
          refine bodyPost_ret (v := .tuple #[zCo.v, .int .i64 E]) (by simp [results, Try.results25, asAddr, load36v HN9.out (show zCo.o.ks.length = 32 from z32_len)]) rfl ?_
          exact ⟨zCo, by rw [← HE.out], z32_len, (Bd HB.out).trans (HM9.out.below (Bd HB.out).size (fun i hi => by subst hi; exact HWZ.out)), .inr ⟨by rw [← HE.out]; exact h0, rfl⟩⟩
end

section
set_option maxHeartbeats 8000000 in
theorem refcmd_k2 (T : Nat → Prop) (A : Option Addr) (c : Nat) (ys : List Int) (W : World) (hr : Rd W T 1 (.slice A ys.length c) ys.length (bts ys)) (hT : ∀ i, T i → i < W.heap.size) (hb : Byt ys) (hl : ys.length ≤ 140737488351232) (hkd : vKd ys = 2) :
    Calls Try.prog 25 #[.slice A ys.length c] W (CmDid ys W) := by
  obtain ⟨z, hz⟩ : ∃ z, z = W.heap.size := ⟨_, rfl⟩
  obtain ⟨r, hrr⟩ : ∃ r, r = W.heap.size + 1 := ⟨_, rfl⟩
  obtain ⟨g, hg⟩ : ∃ g, g = W.heap.size + 1 + 1 := ⟨_, rfl⟩
  obtain ⟨wa, hwa⟩ : ∃ wa, wa = ((W.alloc (.cells zCo.L.toArray 36)).alloc (.cells #[.slice A ys.length c, .int .i64 0] 83)).alloc (.cells zCo.L.toArray 36) := ⟨_, rfl⟩
  have H := Lib.hid (show DcAt W wa T z r g ⟨ys, 0⟩ zCo by
    rw [hwa, hz, hrr, hg]
    have hbl := Ba (Ba (Ba (B0 W) (.cells zCo.L.toArray 36)) (.cells #[.slice A ys.length c, .int .i64 0] 83)) (.cells zCo.L.toArray 36)
    exact ⟨⟨fun i hi => Nat.lt_of_lt_of_le (hT i hi) hbl.size, fun h => by have := hT _ h; omega, hb, hl, A, c, (Blk.new1 W _ _ _).alloc _, hr.below hbl hT⟩, Blk.new2 W _ _ _ _, ((Blk.new W _ _).alloc _).alloc _, hbl, fun h => by have := hT _ h; omega, fun h => by have := hT _ h; omega, by omega, by omega, by omega, by omega, by omega, by omega⟩)
  have HWA := Lib.hid hwa
  have HZQ := Lib.hid hz
  have HRR := Lib.hid hrr
  have HG := Lib.hid hg
  have HKD := Lib.hid hkd
  have HVA : Hid (((v2 ys).nx 1).fail false 4 = vA ys) := Lib.hid (by unfold vA; rw [hkd]; rfl)
  clear hr hT hb hl hz hrr hg hwa hkd
  go_enter Try.func25, Try.ntmps25
  go_wp2_with fail
  change Calls _ _ _ (((W.alloc (.cells zCo.L.toArray 36)).alloc (.cells #[.slice A ys.length c, .int .i64 0] 83)).alloc (.cells zCo.L.toArray 36)) _
  rw [← HG.out, ← HRR.out, ← HZQ.out, ← HWA.out]
  obtain ⟨cs, hcs⟩ : ∃ x, x = (⟨ys, 0⟩ : St).num 1 := ⟨_, rfl⟩
  obtain ⟨cq, hcq⟩ : ∃ x, x = (v1 ys).num 7 := ⟨_, rfl⟩
  have HCS := Lib.hid hcs
  have HCQ := Lib.hid hcq
  clear hcs hcq
  refine (dget_any T r 1 ⟨ys, 0⟩ wa H.out.1 (.inl rfl)).mono ?_
  rw [← HCS.out]
  rintro e w1 ⟨rfl, hd⟩
  have HX := Lib.hid (H.out.read hd)
  clear hd
  have HFc := HX.out.2.1
  have x0 : w1.cell? ⟨g, 0, none⟩ = some (.int .i64 0) := HFc.cell 0
  have fx0 := HFc.frozen 0
  have lg := HFc.lt
  clear HFc
  go_wp2_with fail
  clear lg x0 fx0
  obtain ⟨wb, hwn⟩ : ∃ u, u = w1.setCell ⟨g, 0, none⟩ (.int .i64 cs) := ⟨_, rfl⟩
  replace H := Lib.hid (show DcAt W wb T z r g (v1 ys) ⟨cs, 0, ⟨0, 0, z32, 0, ByteArray.empty, 0⟩⟩ by rw [hwn]; exact HX.out.set (set_s 0 0 0 0 0 z32 ByteArray.empty 0 cs))
  rw [← hwn]
  clear hwn HX
  refine (dget_any T r 7 (v1 ys) wb H.out.1 (.inr (.inr rfl))).mono ?_
  rw [← HCQ.out]
  rintro e w2 ⟨rfl, hd⟩
  have HX := Lib.hid (H.out.read hd)
  clear hd
  have HFc := HX.out.2.1
  have x1 : w2.cell? ⟨g, 1, none⟩ = some (.int .i64 0) := HFc.cell 1
  have fx1 := HFc.frozen 1
  have lg := HFc.lt
  clear HFc
  go_wp2_with fail
  clear lg x1 fx1
  obtain ⟨wc, hwn⟩ : ∃ u, u = w2.setCell ⟨g, 1, none⟩ (.int .i64 cq) := ⟨_, rfl⟩
  replace H := Lib.hid (show DcAt W wc T z r g (v2 ys) ⟨cs, cq, ⟨0, 0, z32, 0, ByteArray.empty, 0⟩⟩ by rw [hwn]; exact HX.out.set (set_q cs 0 0 0 0 z32 ByteArray.empty 0 cq))
  rw [← hwn]
  clear hwn HX
  refine (dget_any T r 1 (v2 ys) wc H.out.1 (.inl rfl)).mono ?_
  rw [show (v2 ys).num 1 = 2 from HKD.out]
  rintro e w3 ⟨rfl, hd⟩
  have HX := Lib.hid (H.out.read hd)
  clear hd
  have HFc := HX.out.2.1
  have x2 : w3.cell? ⟨g, 2, none⟩ = some (.int .i64 0) := HFc.cell 2
  have fx2 := HFc.frozen 2
  have lg := HFc.lt
  clear HFc
  go_wp2_with fail
  clear lg x2 fx2
  obtain ⟨wd, hwn⟩ : ∃ u, u = w3.setCell ⟨g, 2, none⟩ (.int .i64 2) := ⟨_, rfl⟩
  replace H := Lib.hid (show DcAt W wd T z r g ((v2 ys).nx 1) ⟨cs, cq, ⟨2, 0, z32, 0, ByteArray.empty, 0⟩⟩ by rw [hwn]; exact HX.out.set (set_kd cs cq 0 0 0 z32 ByteArray.empty 0 (2)))
  rw [← hwn]
  clear hwn HX
  refine (dbad_any T r false 4 ((v2 ys).nx 1) wd H.out.1).mono ?_
  rintro e w4 ⟨rfl, hd⟩
  have HX := Lib.hid (H.out.read hd)
  rw [HVA.out] at HX
  clear hd
  have HFc := HX.out.2.1
  have x2 : w4.cell? ⟨g, 2, none⟩ = some (.int .i64 2) := HFc.cell 2
  have lg := HFc.lt
  clear HFc
  go_wp2_with fail
  clear lg x2 
  replace H := HX
  clear HX
  obtain ⟨nd, hnd0⟩ : ∃ nd, nd = (vA ys).num 1 := ⟨_, rfl⟩
  have hnd := Lib.hid hnd0
  clear hnd0
  refine (dget_any T r 1 (vA ys) w4 H.out.1 (.inl rfl)).mono ?_
  rw [← hnd.out]
  rintro e w5 ⟨rfl, hd⟩
  have HX := Lib.hid (H.out.read hd)
  clear hd
  have HFc := HX.out.2.1
  have x2 : w5.cell? ⟨g, 2, none⟩ = some (.int .i64 2) := HFc.cell 2
  have x3 : w5.cell? ⟨g, 3, none⟩ = some (.int .i64 0) := HFc.cell 3
  have fx3 := HFc.frozen 3
  have lg := HFc.lt
  clear HFc
  go_wp2_with fail
  clear lg x2 x3 fx3
  obtain ⟨w6, hwn⟩ : ∃ u, u = w5.setCell ⟨g, 3, none⟩ (.int .i64 nd) := ⟨_, rfl⟩
  replace H := Lib.hid (show DcAt W w6 T z r g ((vA ys).nx 1) ⟨cs, cq, ⟨2, nd, z32, 0, ByteArray.empty, 0⟩⟩ by rw [hwn]; exact HX.out.set (set_nd cs cq 2 0 0 z32 ByteArray.empty 0 nd))
  rw [← hwn]
  clear hwn HX
  have HND := hnd
  clear hnd
  have hsl := some_len ((vA ys).nx 1)
  refine (dtake_any T r 32 ((vA ys).nx 1) w6 H.out.1 (by omega)).mono ?_
  obtain ⟨xs, hxs⟩ : ∃ xs, xs = ((vA ys).nx 1).some 32 := ⟨_, rfl⟩
  obtain ⟨s2, hs2⟩ : ∃ s2, s2 = ((vA ys).nx 1).sk 32 := ⟨_, rfl⟩
  rw [show ((32 : Nat) : Int) = 32 from rfl, ← hxs, ← hs2]
  rw [← hxs] at hsl
  have HXS := Lib.hid hxs
  have HS2 := Lib.hid hs2
  have HSL := Lib.hid hsl
  have hle : xs.length ≤ 32 := by rcases hsl with h | h <;> simp [h]
  clear hxs hs2 hsl
  rintro e w7 ⟨A7, c7, rfl, hrd, hd⟩
  have HX := Lib.hid (H.out.read hd)
  have HRD := Lib.hid hrd
  have hcap := hrd.cap
  unfold maxLen at hcap
  obtain ⟨_, hc1, hc2⟩ := hcap
  clear hd hrd
  go_wp2_with fail
  go_loopw [7] (fun i wr => ∃ k : Nat, k ≤ xs.length ∧ i = .int .i64 k ∧ DcAt W wr T z r g s2 ⟨cs, cq, ⟨2, nd, keyK xs k, 0, ByteArray.empty, 0⟩⟩ ∧ Rd wr T 1 (.slice A7 xs.length c7) xs.length (bts xs)) (fun i _ => xs.length - (intOf i).toNat)
  case atStart => exact ⟨0, by omega, rfl, by rw [keyK_zero]; exact HX.out, HRD.out⟩
  case round =>
    obtain ⟨k, hk, rfl, hdc, hrd⟩ := hrel
    clear HX HRD
    have HX := Lib.hid hdc
    have HRD := Lib.hid hrd
    clear hdc hrd
    by_cases hlt : k < xs.length
    · have hlt' : (k : Int) < (xs.length : Int) := by omega
      have hk0 : (0 : Int) ≤ (k : Int) := by omega
      have hk32 : (k : Int) < 32 := by omega
      obtain ⟨gx, ox, hA, hgx, hcc⟩ := HRD.out.some_ (by omega)
      subst hA
      obtain ⟨x, hx⟩ : ∃ x, x = xs[k] := ⟨_, rfl⟩
      have d0 : wr.cell? ⟨gx, ox + k, none⟩ = some (.int .u8 x) := hcc k _ (by rw [bts_getElem? xs k hlt, hx])
      have d1 := (HX.out.2.1.cell (4 + k)).trans (Co.key_cell (c := ⟨cs, cq, ⟨2, nd, keyK xs k, 0, ByteArray.empty, 0⟩⟩) (show k < (keyK xs k).length by rw [keyK_len hk hle]; omega))
      have fd1 := HX.out.2.1.frozen (4 + k)
      have lg := HX.out.2.1.lt
      have HXX := Lib.hid hx
      clear hcc hx
      go_wp2_with fail
      go_roundw
      case rel =>
        have hS4 : ¬ T g := HX.out.2.2.2.2.1
        have m1 : Mod (fun i => i = g) wr (wr.setCell ⟨g, 4 + k, none⟩ (.int .u8 x)) := (Mod.refl (fun i => i = g) wr).setCell (p := ⟨g, 4 + k, none⟩) (.inl rfl) _
        refine ⟨k + 1, by omega, by go_num, HX.out.set ?_, HRD.out.kept m1 (fun i hi e => hS4 (e ▸ hi))⟩
        rw [set_key _ _ _ _ _ _ _ _ _ (by rw [keyK_len hk hle]; omega), HXX.out, keyK_set hlt hle]
      case measure => simp [intOf]; omega
    · obtain rfl : k = xs.length := by omega
      rw [keyK_end HSL.out] at HX
      have HKL := Lib.hid (show (keyZ xs).length = 32 by rw [HXS.out]; exact keyZ_len _)
      obtain ⟨ks, hks⟩ : ∃ ks, ks = keyZ xs := ⟨_, rfl⟩
      rw [← hks] at HX HKL
      have HKS := Lib.hid hks
      clear hks hk hlt
      go_wp2_with fail
      replace H := HX
      clear HX
      obtain ⟨ex, hex0⟩ : ∃ ex, ex = s2.num 7 := ⟨_, rfl⟩
      have hex := Lib.hid hex0
      clear hex0
      refine (dget_any T r 7 s2 wr H.out.1 (.inr (.inr rfl))).mono ?_
      rw [← hex.out]
      rintro e w8 ⟨rfl, hd⟩
      have HX := Lib.hid (H.out.read hd)
      clear hd
      have HFc := HX.out.2.1
      have x2 : w8.cell? ⟨g, 2, none⟩ = some (.int .i64 2) := HFc.cell 2
      have x36 : w8.cell? ⟨g, 36, none⟩ = some (.int .i64 0) := (HFc.cell 36).trans (Co.at36 (c := ⟨cs, cq, ⟨2, nd, ks, 0, ByteArray.empty, 0⟩⟩) HKL.out)
      have fx36 := HFc.frozen 36
      have lg := HFc.lt
      clear HFc
      go_upto_region 20 with fail
      clear lg x2 x36 fx36
      obtain ⟨w9, hwn⟩ : ∃ u, u = w8.setCell ⟨g, 36, none⟩ (.int .i64 ex) := ⟨_, rfl⟩
      replace H := Lib.hid (show DcAt W w9 T z r g (s2.nx 7) ⟨cs, cq, ⟨2, nd, ks, ex, ByteArray.empty, 0⟩⟩ by rw [hwn]; exact HX.out.set (set_ex cs cq 2 nd 0 ks HKL.out ByteArray.empty 0 ex))
      rw [← hwn]
      clear hwn HX
      obtain ⟨co, hco⟩ : ∃ co, co = vC ys := ⟨_, rfl⟩
      have hcc : (⟨cs, cq, ⟨2, nd, ks, ex, ByteArray.empty, 0⟩⟩ : Co) = co := by rw [hco]; unfold vC rop; rw [HKD.out, HCS.out, HCQ.out, hex.out, HKS.out, HXS.out, HND.out, HS2.out]; rfl
      rw [hcc, show s2.nx 7 = vB ys from by unfold vB ropS; rw [HKD.out, HS2.out]; rfl] at H
      have HCO := Lib.hid hco
      have HK := Lib.hid (show co.o.ks.length = 32 by rw [hco]; exact rop_ks _ _)
      have HFc := H.out.2.1
      clear hco hcc HFc
      clear hex
      obtain ⟨n, hn⟩ : ∃ n, n = (vB ys).l.length := ⟨_, rfl⟩
      have HN := Lib.hid hn
      obtain ⟨bad, hbad⟩ : ∃ b, b = (decide (0 < (n : Int)) || !(cmB co)) := ⟨_, rfl⟩
      have HBAD := Lib.hid (show (vB ys).fail bad 4 = vZ ys by rw [hbad, hn, HCO.out]; rfl)
      obtain ⟨hdr, _⟩ := H.out
      obtain ⟨_, _, _, hnl, A6, c6, hb6, hr6⟩ := hdr
      obtain ⟨b0, b1, f0, f1⟩ := blk2 hb6
      have hcap := hr6.cap
      unfold maxLen at hcap
      obtain ⟨_, hc1, hc2⟩ := hcap
      have lrb := hb6.lt
      rw [← hn] at b0 hnl hc1
      clear hb6 hr6 hn
      by_cases hpos : 0 < n
      · have hn2 : (0 : Int) < (n : Int) := by omega
        have eb : bad = true := by rw [hbad, decide_eq_true hn2]; rfl
        clear hbad
        rw [eb] at HBAD
        go_wp2_with fail
        clear b0 b1 f0 f1 lrb
        refine (dbad_any T r true 4 (vB ys) _ H.out.1).mono ?_
        rintro e w8 ⟨rfl, hd⟩
        replace H := Lib.hid (H.out.read hd)
        rw [HBAD.out] at H
        clear hd
        obtain ⟨hdr, hbc, hbz, hbw, _, _, _, hzr, _, hWz, _, _⟩ := H.out
        obtain ⟨_, _, _, _, A8, c8, hb8, _⟩ := hdr
        obtain ⟨b0, b1, f0, f1⟩ := blk2 hb8
        have lrb := hb8.lt
        have HC := Lib.hid hbc
        have HZ := Lib.hid hbz
        have HB := Lib.hid hbw
        have HWZ := Lib.hid hWz
        obtain ⟨E, hE⟩ : ∃ E, E = (vZ ys).e := ⟨_, rfl⟩
        have HE := Lib.hid hE
        rw [← hE] at b1
        clear hb8 hE hbc hbz hbw hWz
        by_cases h0 : E = 0
        · subst h0
          go_wp2_with (first | (refine step_load36 rfl (.tmp 5) rfl g rfl co HK.out (blk_range HC.out) ?_) | (refine step_store36 rfl (.tmp 2) (.tmp 105) rfl z rfl co HK.out rfl _ HZ.out (by simp [Co.len (c := zCo) z32_len]) ?_; intro w9 hb9 hm9 hs9; have HB9 := Lib.hid hb9; have HM9 := Lib.hid hm9; clear hb9 hm9 hs9) | fail)
          refine bodyPost_ret (v := .tuple #[co.v, .int .i64 0]) (by simp [results, Try.results25, asAddr, load36v HB9.out HK.out]) rfl ?_
          exact ⟨co, by rw [← HE.out], HK.out, HB.out.trans (HM9.out.below HB.out.size (fun i hi => by subst hi; exact HWZ.out)), .inl ⟨HE.out.symm, HCO.out⟩⟩
        · have hq : (E != 0) = true := by simpa using h0
          have hi := info36
          have hu := Try.underlying36
          have hth := there_of_blk HZ.out (o := 0) (n := 39) (by simp [Co.len (c := zCo) z32_len])
          have hne : r ≠ z := fun e => hzr e.symm
          have hh1 : zCo.L.toArray.all (·.oneCell') = true := all_one (l := zCo.L) zCo_one
          go_wp2_with fail
          refine wp_region_held_drew (S := (fun w' => w'.cell? ⟨r, 1, none⟩ = some (.int .i64 E))) (by kernel_rfl) (b1) (fun hHeld => ?_)
          refine wpAnyH_take (i := 0) (v := ?_) rfl (by kernel_rfl) (by kernel_rfl) (by kernel_rfl) (fun _ _ _ h => h) (Or.inl ⟨by kernel_rfl, ?_⟩) (by assumption) ?_
          rotate_left 1
          · (intro w hSw; (try dsimp only at hSw); go_simp; try with_reducible rfl)
          try simp only [Act.put, List.getElem_toArray, List.getElem_cons_succ, List.getElem_cons_zero, List.setIfInBounds_toArray, List.set_cons_zero, List.set_cons_succ]
          refine wpAnyH_take (i := 1) (v := ?_) rfl (by kernel_rfl) (by kernel_rfl) (by kernel_rfl) (fun _ _ _ h => h) (Or.inl ⟨by kernel_rfl, ?_⟩) (by assumption) ?_
          rotate_left 1
          · (intro w hSw; (try dsimp only at hSw); go_simp; try with_reducible rfl)
          try simp only [Act.put, List.getElem_toArray, List.getElem_cons_succ, List.getElem_cons_zero, List.setIfInBounds_toArray, List.set_cons_zero, List.set_cons_succ]
          refine wpAnyH_take (i := 2) (v := ?_) rfl (by kernel_rfl) (by kernel_rfl) (by kernel_rfl) (fun _ _ _ h => h) (Or.inl ⟨by kernel_rfl, ?_⟩) (by assumption) ?_
          rotate_left 1
          · (intro w hSw; (try dsimp only at hSw); go_simp; try with_reducible rfl)
          try simp only [Act.put, List.getElem_toArray, List.getElem_cons_succ, List.getElem_cons_zero, List.setIfInBounds_toArray, List.set_cons_zero, List.set_cons_succ]
          refine wpAnyH_take (i := 3) (v := ?_) rfl (by kernel_rfl) (by kernel_rfl) (by kernel_rfl) (fun _ _ _ h => h) (Or.inl ⟨by kernel_rfl, ?_⟩) (by assumption) ?_
          rotate_left 1
          · (intro w hSw; (try dsimp only at hSw); go_simp; try with_reducible rfl)
          try simp only [Act.put, List.getElem_toArray, List.getElem_cons_succ, List.getElem_cons_zero, List.setIfInBounds_toArray, List.set_cons_zero, List.set_cons_succ]
          refine wpAnyH_take (i := 4) (v := ?_) rfl (by kernel_rfl) (by kernel_rfl) (by kernel_rfl) (fun _ _ _ h => h) (Or.inl ⟨by kernel_rfl, ?_⟩) (by assumption) ?_
          rotate_left 1
          · (intro w hSw; (try dsimp only at hSw); go_simp; try with_reducible rfl)
          try simp only [Act.put, List.getElem_toArray, List.getElem_cons_succ, List.getElem_cons_zero, List.setIfInBounds_toArray, List.set_cons_zero, List.set_cons_succ]
          refine wpAnyH_ready (rs := [5]) (by kernel_rfl) (by simp) ?_
          refine AllReadyH.cons rfl (fun K hK => ?_) AllReadyH.nil
          refine wp_store_row 36 (.tmp 2) (.tmp 100) rfl z zCo.L.toArray rfl rfl 36 zCo.L.toArray HZ.out.drew (by rw [info36]; rfl) rfl hh1 ?_
          have HN9 := Lib.hid (show Blk (w8.drew.setRow z zCo.L.toArray) z 36 zCo.L.toArray from HZ.out.drew.setRow _)
          have HM9 := Lib.hid (show Mod (fun j => j = z) w8.drew (w8.drew.setRow z zCo.L.toArray) from (Mod.refl (fun j => j = z) w8.drew).setRow (.inl rfl) _)
          refine hK.out _ _ ((HM9.out.cell (p := ⟨r, 1, none⟩) (show w8.drew.cell? ⟨r, 1, none⟩ = some (.int .i64 E) from b1) hne)) (fun hHeld => ?_)
          clear hK K
          try simp only [Act.put, List.getElem_toArray, List.getElem_cons_succ, List.getElem_cons_zero, List.setIfInBounds_toArray, List.set_cons_zero, List.set_cons_succ]
          refine wpAnyH_take (i := 6) (v := ?_) rfl (by kernel_rfl) (by kernel_rfl) (by kernel_rfl) (fun _ _ _ h => h) (Or.inl ⟨by kernel_rfl, ?_⟩) (by assumption) ?_
          rotate_left 1
          · (intro w hSw; (try dsimp only at hSw); go_simp; try with_reducible rfl)
          try simp only [Act.put, List.getElem_toArray, List.getElem_cons_succ, List.getElem_cons_zero, List.setIfInBounds_toArray, List.set_cons_zero, List.set_cons_succ]
          refine wpAnyH_done (by kernel_rfl) ?_ _
          go_wp2_with fail
          refine bodyPost_ret (v := .tuple #[zCo.v, .int .i64 E]) (by simp [results, Try.results25, asAddr, load36v HN9.out (show zCo.o.ks.length = 32 from z32_len)]) rfl ?_
          exact ⟨zCo, by rw [← HE.out], z32_len, (Bd HB.out).trans (HM9.out.below (Bd HB.out).size (fun i hi => by subst hi; exact HWZ.out)), .inr ⟨by rw [← HE.out]; exact h0, rfl⟩⟩

      · have hn0 : n = 0 := by omega
        subst hn0
        obtain ⟨cm, hcm⟩ : ∃ cm, cm = cmB co := ⟨_, rfl⟩
        have eb : bad = !cm := by rw [hbad, decide_eq_false (by omega), ← hcm]; rfl
        have HCM := Lib.hid hcm
        clear hbad hcm
        rw [eb] at HBAD
        have HC6 := Lib.hid H.out.2.1
        go_wp2_with (first | (refine step_load36 (by first | rfl | simp [Region.wanted, yielded]) (.tmp 5) rfl g rfl co HK.out (blk_range HC6.out) ?_) | fail)
        refine (refmay_any co _ HK.out).mono ?_
        rw [← HCM.out]
        rintro e w7b ⟨rfl, hbm⟩
        replace H := Lib.hid (H.out.later hbm)
        clear hbm b0 b1 f0 f1 lrb HC6
        go_wp2_with fail
        refine (dbad_any T r (!cm) 4 (vB ys) _ H.out.1).mono ?_
        rintro e w8 ⟨rfl, hd⟩
        replace H := Lib.hid (H.out.read hd)
        rw [HBAD.out] at H
        clear hd
        obtain ⟨hdr, hbc, hbz, hbw, _, _, _, hzr, _, hWz, _, _⟩ := H.out
        obtain ⟨_, _, _, _, A8, c8, hb8, _⟩ := hdr
        obtain ⟨b0, b1, f0, f1⟩ := blk2 hb8
        have lrb := hb8.lt
        have HC := Lib.hid hbc
        have HZ := Lib.hid hbz
        have HB := Lib.hid hbw
        have HWZ := Lib.hid hWz
        obtain ⟨E, hE⟩ : ∃ E, E = (vZ ys).e := ⟨_, rfl⟩
        have HE := Lib.hid hE
        rw [← hE] at b1
        clear hb8 hE hbc hbz hbw hWz
        by_cases h0 : E = 0
        · subst h0
          go_wp2_with (first | (refine step_load36 rfl (.tmp 5) rfl g rfl co HK.out (blk_range HC.out) ?_) | (refine step_store36 rfl (.tmp 2) (.tmp 105) rfl z rfl co HK.out rfl _ HZ.out (by simp [Co.len (c := zCo) z32_len]) ?_; intro w9 hb9 hm9 hs9; have HB9 := Lib.hid hb9; have HM9 := Lib.hid hm9; clear hb9 hm9 hs9) | fail)
          refine bodyPost_ret (v := .tuple #[co.v, .int .i64 0]) (by simp [results, Try.results25, asAddr, load36v HB9.out HK.out]) rfl ?_
          exact ⟨co, by rw [← HE.out], HK.out, HB.out.trans (HM9.out.below HB.out.size (fun i hi => by subst hi; exact HWZ.out)), .inl ⟨HE.out.symm, HCO.out⟩⟩
        · have hq : (E != 0) = true := by simpa using h0
          have hi := info36
          have hu := Try.underlying36
          have hth := there_of_blk HZ.out (o := 0) (n := 39) (by simp [Co.len (c := zCo) z32_len])
          have hne : r ≠ z := fun e => hzr e.symm
          have hh1 : zCo.L.toArray.all (·.oneCell') = true := all_one (l := zCo.L) zCo_one
          go_wp2_with fail
          refine wp_region_held_drew (S := (fun w' => w'.cell? ⟨r, 1, none⟩ = some (.int .i64 E))) (by kernel_rfl) (b1) (fun hHeld => ?_)
          refine wpAnyH_take (i := 0) (v := ?_) rfl (by kernel_rfl) (by kernel_rfl) (by kernel_rfl) (fun _ _ _ h => h) (Or.inl ⟨by kernel_rfl, ?_⟩) (by assumption) ?_
          rotate_left 1
          · (intro w hSw; (try dsimp only at hSw); go_simp; try with_reducible rfl)
          try simp only [Act.put, List.getElem_toArray, List.getElem_cons_succ, List.getElem_cons_zero, List.setIfInBounds_toArray, List.set_cons_zero, List.set_cons_succ]
          refine wpAnyH_take (i := 1) (v := ?_) rfl (by kernel_rfl) (by kernel_rfl) (by kernel_rfl) (fun _ _ _ h => h) (Or.inl ⟨by kernel_rfl, ?_⟩) (by assumption) ?_
          rotate_left 1
          · (intro w hSw; (try dsimp only at hSw); go_simp; try with_reducible rfl)
          try simp only [Act.put, List.getElem_toArray, List.getElem_cons_succ, List.getElem_cons_zero, List.setIfInBounds_toArray, List.set_cons_zero, List.set_cons_succ]
          refine wpAnyH_take (i := 2) (v := ?_) rfl (by kernel_rfl) (by kernel_rfl) (by kernel_rfl) (fun _ _ _ h => h) (Or.inl ⟨by kernel_rfl, ?_⟩) (by assumption) ?_
          rotate_left 1
          · (intro w hSw; (try dsimp only at hSw); go_simp; try with_reducible rfl)
          try simp only [Act.put, List.getElem_toArray, List.getElem_cons_succ, List.getElem_cons_zero, List.setIfInBounds_toArray, List.set_cons_zero, List.set_cons_succ]
          refine wpAnyH_take (i := 3) (v := ?_) rfl (by kernel_rfl) (by kernel_rfl) (by kernel_rfl) (fun _ _ _ h => h) (Or.inl ⟨by kernel_rfl, ?_⟩) (by assumption) ?_
          rotate_left 1
          · (intro w hSw; (try dsimp only at hSw); go_simp; try with_reducible rfl)
          try simp only [Act.put, List.getElem_toArray, List.getElem_cons_succ, List.getElem_cons_zero, List.setIfInBounds_toArray, List.set_cons_zero, List.set_cons_succ]
          refine wpAnyH_take (i := 4) (v := ?_) rfl (by kernel_rfl) (by kernel_rfl) (by kernel_rfl) (fun _ _ _ h => h) (Or.inl ⟨by kernel_rfl, ?_⟩) (by assumption) ?_
          rotate_left 1
          · (intro w hSw; (try dsimp only at hSw); go_simp; try with_reducible rfl)
          try simp only [Act.put, List.getElem_toArray, List.getElem_cons_succ, List.getElem_cons_zero, List.setIfInBounds_toArray, List.set_cons_zero, List.set_cons_succ]
          refine wpAnyH_ready (rs := [5]) (by kernel_rfl) (by simp) ?_
          refine AllReadyH.cons rfl (fun K hK => ?_) AllReadyH.nil
          refine wp_store_row 36 (.tmp 2) (.tmp 100) rfl z zCo.L.toArray rfl rfl 36 zCo.L.toArray HZ.out.drew (by rw [info36]; rfl) rfl hh1 ?_
          have HN9 := Lib.hid (show Blk (w8.drew.setRow z zCo.L.toArray) z 36 zCo.L.toArray from HZ.out.drew.setRow _)
          have HM9 := Lib.hid (show Mod (fun j => j = z) w8.drew (w8.drew.setRow z zCo.L.toArray) from (Mod.refl (fun j => j = z) w8.drew).setRow (.inl rfl) _)
          refine hK.out _ _ ((HM9.out.cell (p := ⟨r, 1, none⟩) (show w8.drew.cell? ⟨r, 1, none⟩ = some (.int .i64 E) from b1) hne)) (fun hHeld => ?_)
          clear hK K
          try simp only [Act.put, List.getElem_toArray, List.getElem_cons_succ, List.getElem_cons_zero, List.setIfInBounds_toArray, List.set_cons_zero, List.set_cons_succ]
          refine wpAnyH_take (i := 6) (v := ?_) rfl (by kernel_rfl) (by kernel_rfl) (by kernel_rfl) (fun _ _ _ h => h) (Or.inl ⟨by kernel_rfl, ?_⟩) (by assumption) ?_
          rotate_left 1
          · (intro w hSw; (try dsimp only at hSw); go_simp; try with_reducible rfl)
          try simp only [Act.put, List.getElem_toArray, List.getElem_cons_succ, List.getElem_cons_zero, List.setIfInBounds_toArray, List.set_cons_zero, List.set_cons_succ]
          refine wpAnyH_done (by kernel_rfl) ?_ _
          go_wp2_with fail
          refine bodyPost_ret (v := .tuple #[zCo.v, .int .i64 E]) (by simp [results, Try.results25, asAddr, load36v HN9.out (show zCo.o.ks.length = 32 from z32_len)]) rfl ?_
          exact ⟨zCo, by rw [← HE.out], z32_len, (Bd HB.out).trans (HM9.out.below (Bd HB.out).size (fun i hi => by subst hi; exact HWZ.out)), .inr ⟨by rw [← HE.out]; exact h0, rfl⟩⟩
end

section
set_option maxHeartbeats 8000000 in
theorem refcmd_k0 (T : Nat → Prop) (A : Option Addr) (c : Nat) (ys : List Int) (W : World) (hr : Rd W T 1 (.slice A ys.length c) ys.length (bts ys)) (hT : ∀ i, T i → i < W.heap.size) (hb : Byt ys) (hl : ys.length ≤ 140737488351232) (hkd : vKd ys = 0) :
    Calls Try.prog 25 #[.slice A ys.length c] W (CmDid ys W) := by
  obtain ⟨z, hz⟩ : ∃ z, z = W.heap.size := ⟨_, rfl⟩
  obtain ⟨r, hrr⟩ : ∃ r, r = W.heap.size + 1 := ⟨_, rfl⟩
  obtain ⟨g, hg⟩ : ∃ g, g = W.heap.size + 1 + 1 := ⟨_, rfl⟩
  obtain ⟨wa, hwa⟩ : ∃ wa, wa = ((W.alloc (.cells zCo.L.toArray 36)).alloc (.cells #[.slice A ys.length c, .int .i64 0] 83)).alloc (.cells zCo.L.toArray 36) := ⟨_, rfl⟩
  have H := Lib.hid (show DcAt W wa T z r g ⟨ys, 0⟩ zCo by
    rw [hwa, hz, hrr, hg]
    have hbl := Ba (Ba (Ba (B0 W) (.cells zCo.L.toArray 36)) (.cells #[.slice A ys.length c, .int .i64 0] 83)) (.cells zCo.L.toArray 36)
    exact ⟨⟨fun i hi => Nat.lt_of_lt_of_le (hT i hi) hbl.size, fun h => by have := hT _ h; omega, hb, hl, A, c, (Blk.new1 W _ _ _).alloc _, hr.below hbl hT⟩, Blk.new2 W _ _ _ _, ((Blk.new W _ _).alloc _).alloc _, hbl, fun h => by have := hT _ h; omega, fun h => by have := hT _ h; omega, by omega, by omega, by omega, by omega, by omega, by omega⟩)
  have HWA := Lib.hid hwa
  have HZQ := Lib.hid hz
  have HRR := Lib.hid hrr
  have HG := Lib.hid hg
  have HKD := Lib.hid hkd
  have HVA : Hid (((v2 ys).nx 1).fail true 4 = vA ys) := Lib.hid (by unfold vA; rw [hkd]; rfl)
  have HBD := Lib.hid (vA_bad (ys := ys) (by rw [hkd]; rfl))
  clear hr hT hb hl hz hrr hg hwa hkd
  go_enter Try.func25, Try.ntmps25
  go_wp2_with fail
  change Calls _ _ _ (((W.alloc (.cells zCo.L.toArray 36)).alloc (.cells #[.slice A ys.length c, .int .i64 0] 83)).alloc (.cells zCo.L.toArray 36)) _
  rw [← HG.out, ← HRR.out, ← HZQ.out, ← HWA.out]
  obtain ⟨cs, hcs⟩ : ∃ x, x = (⟨ys, 0⟩ : St).num 1 := ⟨_, rfl⟩
  obtain ⟨cq, hcq⟩ : ∃ x, x = (v1 ys).num 7 := ⟨_, rfl⟩
  have HCS := Lib.hid hcs
  have HCQ := Lib.hid hcq
  clear hcs hcq
  refine (dget_any T r 1 ⟨ys, 0⟩ wa H.out.1 (.inl rfl)).mono ?_
  rw [← HCS.out]
  rintro e w1 ⟨rfl, hd⟩
  have HX := Lib.hid (H.out.read hd)
  clear hd
  have HFc := HX.out.2.1
  have x0 : w1.cell? ⟨g, 0, none⟩ = some (.int .i64 0) := HFc.cell 0
  have fx0 := HFc.frozen 0
  have lg := HFc.lt
  clear HFc
  go_wp2_with fail
  clear lg x0 fx0
  obtain ⟨wb, hwn⟩ : ∃ u, u = w1.setCell ⟨g, 0, none⟩ (.int .i64 cs) := ⟨_, rfl⟩
  replace H := Lib.hid (show DcAt W wb T z r g (v1 ys) ⟨cs, 0, ⟨0, 0, z32, 0, ByteArray.empty, 0⟩⟩ by rw [hwn]; exact HX.out.set (set_s 0 0 0 0 0 z32 ByteArray.empty 0 cs))
  rw [← hwn]
  clear hwn HX
  refine (dget_any T r 7 (v1 ys) wb H.out.1 (.inr (.inr rfl))).mono ?_
  rw [← HCQ.out]
  rintro e w2 ⟨rfl, hd⟩
  have HX := Lib.hid (H.out.read hd)
  clear hd
  have HFc := HX.out.2.1
  have x1 : w2.cell? ⟨g, 1, none⟩ = some (.int .i64 0) := HFc.cell 1
  have fx1 := HFc.frozen 1
  have lg := HFc.lt
  clear HFc
  go_wp2_with fail
  clear lg x1 fx1
  obtain ⟨wc, hwn⟩ : ∃ u, u = w2.setCell ⟨g, 1, none⟩ (.int .i64 cq) := ⟨_, rfl⟩
  replace H := Lib.hid (show DcAt W wc T z r g (v2 ys) ⟨cs, cq, ⟨0, 0, z32, 0, ByteArray.empty, 0⟩⟩ by rw [hwn]; exact HX.out.set (set_q cs 0 0 0 0 z32 ByteArray.empty 0 cq))
  rw [← hwn]
  clear hwn HX
  refine (dget_any T r 1 (v2 ys) wc H.out.1 (.inl rfl)).mono ?_
  rw [show (v2 ys).num 1 = 0 from HKD.out]
  rintro e w3 ⟨rfl, hd⟩
  have HX := Lib.hid (H.out.read hd)
  clear hd
  have HFc := HX.out.2.1
  have x2 : w3.cell? ⟨g, 2, none⟩ = some (.int .i64 0) := HFc.cell 2
  have fx2 := HFc.frozen 2
  have lg := HFc.lt
  clear HFc
  go_wp2_with fail
  clear lg x2 fx2
  obtain ⟨wd, hwn⟩ : ∃ u, u = w3.setCell ⟨g, 2, none⟩ (.int .i64 0) := ⟨_, rfl⟩
  replace H := Lib.hid (show DcAt W wd T z r g ((v2 ys).nx 1) ⟨cs, cq, ⟨0, 0, z32, 0, ByteArray.empty, 0⟩⟩ by rw [hwn]; exact HX.out.set (set_kd cs cq 0 0 0 z32 ByteArray.empty 0 (0)))
  rw [← hwn]
  clear hwn HX
  refine (dbad_any T r true 4 ((v2 ys).nx 1) wd H.out.1).mono ?_
  rintro e w4 ⟨rfl, hd⟩
  have HX := Lib.hid (H.out.read hd)
  rw [HVA.out] at HX
  clear hd
  have HFc := HX.out.2.1
  have x2 : w4.cell? ⟨g, 2, none⟩ = some (.int .i64 0) := HFc.cell 2
  have lg := HFc.lt
  clear HFc
  go_wp2_with fail
  clear lg x2 
  replace H := HX
  clear HX
  obtain ⟨nd, hnd0⟩ : ∃ nd, nd = (vA ys).num 1 := ⟨_, rfl⟩
  have hnd := Lib.hid hnd0
  clear hnd0
  refine (dget_any T r 1 (vA ys) w4 H.out.1 (.inl rfl)).mono ?_
  rw [← hnd.out]
  rintro e w5 ⟨rfl, hd⟩
  have HX := Lib.hid (H.out.read hd)
  clear hd
  have HFc := HX.out.2.1
  have x2 : w5.cell? ⟨g, 2, none⟩ = some (.int .i64 0) := HFc.cell 2
  have x3 : w5.cell? ⟨g, 3, none⟩ = some (.int .i64 0) := HFc.cell 3
  have fx3 := HFc.frozen 3
  have lg := HFc.lt
  clear HFc
  go_wp2_with fail
  clear lg x2 x3 fx3
  obtain ⟨w6, hwn⟩ : ∃ u, u = w5.setCell ⟨g, 3, none⟩ (.int .i64 nd) := ⟨_, rfl⟩
  replace H := Lib.hid (show DcAt W w6 T z r g ((vA ys).nx 1) ⟨cs, cq, ⟨0, nd, z32, 0, ByteArray.empty, 0⟩⟩ by rw [hwn]; exact HX.out.set (set_nd cs cq 0 0 0 z32 ByteArray.empty 0 nd))
  rw [← hwn]
  clear hwn HX
  have HND := hnd
  clear hnd
  have hsl := some_len ((vA ys).nx 1)
  refine (dtake_any T r 32 ((vA ys).nx 1) w6 H.out.1 (by omega)).mono ?_
  obtain ⟨xs, hxs⟩ : ∃ xs, xs = ((vA ys).nx 1).some 32 := ⟨_, rfl⟩
  obtain ⟨s2, hs2⟩ : ∃ s2, s2 = ((vA ys).nx 1).sk 32 := ⟨_, rfl⟩
  rw [show ((32 : Nat) : Int) = 32 from rfl, ← hxs, ← hs2]
  rw [← hxs] at hsl
  have HXS := Lib.hid hxs
  have HS2 := Lib.hid hs2
  have HSL := Lib.hid hsl
  have hle : xs.length ≤ 32 := by rcases hsl with h | h <;> simp [h]
  clear hxs hs2 hsl
  rintro e w7 ⟨A7, c7, rfl, hrd, hd⟩
  have HX := Lib.hid (H.out.read hd)
  have HRD := Lib.hid hrd
  have hcap := hrd.cap
  unfold maxLen at hcap
  obtain ⟨_, hc1, hc2⟩ := hcap
  clear hd hrd
  go_wp2_with fail
  go_loopw [7] (fun i wr => ∃ k : Nat, k ≤ xs.length ∧ i = .int .i64 k ∧ DcAt W wr T z r g s2 ⟨cs, cq, ⟨0, nd, keyK xs k, 0, ByteArray.empty, 0⟩⟩ ∧ Rd wr T 1 (.slice A7 xs.length c7) xs.length (bts xs)) (fun i _ => xs.length - (intOf i).toNat)
  case atStart => exact ⟨0, by omega, rfl, by rw [keyK_zero]; exact HX.out, HRD.out⟩
  case round =>
    obtain ⟨k, hk, rfl, hdc, hrd⟩ := hrel
    clear HX HRD
    have HX := Lib.hid hdc
    have HRD := Lib.hid hrd
    clear hdc hrd
    by_cases hlt : k < xs.length
    · have hlt' : (k : Int) < (xs.length : Int) := by omega
      have hk0 : (0 : Int) ≤ (k : Int) := by omega
      have hk32 : (k : Int) < 32 := by omega
      obtain ⟨gx, ox, hA, hgx, hcc⟩ := HRD.out.some_ (by omega)
      subst hA
      obtain ⟨x, hx⟩ : ∃ x, x = xs[k] := ⟨_, rfl⟩
      have d0 : wr.cell? ⟨gx, ox + k, none⟩ = some (.int .u8 x) := hcc k _ (by rw [bts_getElem? xs k hlt, hx])
      have d1 := (HX.out.2.1.cell (4 + k)).trans (Co.key_cell (c := ⟨cs, cq, ⟨0, nd, keyK xs k, 0, ByteArray.empty, 0⟩⟩) (show k < (keyK xs k).length by rw [keyK_len hk hle]; omega))
      have fd1 := HX.out.2.1.frozen (4 + k)
      have lg := HX.out.2.1.lt
      have HXX := Lib.hid hx
      clear hcc hx
      go_wp2_with fail
      go_roundw
      case rel =>
        have hS4 : ¬ T g := HX.out.2.2.2.2.1
        have m1 : Mod (fun i => i = g) wr (wr.setCell ⟨g, 4 + k, none⟩ (.int .u8 x)) := (Mod.refl (fun i => i = g) wr).setCell (p := ⟨g, 4 + k, none⟩) (.inl rfl) _
        refine ⟨k + 1, by omega, by go_num, HX.out.set ?_, HRD.out.kept m1 (fun i hi e => hS4 (e ▸ hi))⟩
        rw [set_key _ _ _ _ _ _ _ _ _ (by rw [keyK_len hk hle]; omega), HXX.out, keyK_set hlt hle]
      case measure => simp [intOf]; omega
    · obtain rfl : k = xs.length := by omega
      rw [keyK_end HSL.out] at HX
      have HKL := Lib.hid (show (keyZ xs).length = 32 by rw [HXS.out]; exact keyZ_len _)
      obtain ⟨ks, hks⟩ : ∃ ks, ks = keyZ xs := ⟨_, rfl⟩
      rw [← hks] at HX HKL
      have HKS := Lib.hid hks
      clear hks hk hlt
      go_wp2_with fail
      replace H := HX
      clear HX
      obtain ⟨ex, hex0⟩ : ∃ ex, ex = s2.num 7 := ⟨_, rfl⟩
      have hex := Lib.hid hex0
      clear hex0
      refine (dget_any T r 7 s2 wr H.out.1 (.inr (.inr rfl))).mono ?_
      rw [← hex.out]
      rintro e w8 ⟨rfl, hd⟩
      have HX := Lib.hid (H.out.read hd)
      clear hd
      have HFc := HX.out.2.1
      have x2 : w8.cell? ⟨g, 2, none⟩ = some (.int .i64 0) := HFc.cell 2
      have x36 : w8.cell? ⟨g, 36, none⟩ = some (.int .i64 0) := (HFc.cell 36).trans (Co.at36 (c := ⟨cs, cq, ⟨0, nd, ks, 0, ByteArray.empty, 0⟩⟩) HKL.out)
      have fx36 := HFc.frozen 36
      have lg := HFc.lt
      clear HFc
      go_upto_region 20 with fail
      clear lg x2 x36 fx36
      obtain ⟨w9, hwn⟩ : ∃ u, u = w8.setCell ⟨g, 36, none⟩ (.int .i64 ex) := ⟨_, rfl⟩
      replace H := Lib.hid (show DcAt W w9 T z r g (s2.nx 7) ⟨cs, cq, ⟨0, nd, ks, ex, ByteArray.empty, 0⟩⟩ by rw [hwn]; exact HX.out.set (set_ex cs cq 0 nd 0 ks HKL.out ByteArray.empty 0 ex))
      rw [← hwn]
      clear hwn HX
      obtain ⟨co, hco⟩ : ∃ co, co = vC ys := ⟨_, rfl⟩
      have hcc : (⟨cs, cq, ⟨0, nd, ks, ex, ByteArray.empty, 0⟩⟩ : Co) = co := by rw [hco]; unfold vC; rw [HKD.out, ← (rop_bad HBD.out).1, HCS.out, HCQ.out, hex.out, HKS.out, HXS.out, HND.out, HS2.out]
      rw [hcc, show s2.nx 7 = vB ys from by unfold vB; rw [HKD.out, ← (rop_bad HBD.out).2, HS2.out]] at H
      have HCO := Lib.hid hco
      have HK := Lib.hid (show co.o.ks.length = 32 by rw [hco]; exact rop_ks _ _)
      have HFc := H.out.2.1
      clear hco hcc HFc
      clear hex
      obtain ⟨n, hn⟩ : ∃ n, n = (vB ys).l.length := ⟨_, rfl⟩
      have HN := Lib.hid hn
      obtain ⟨bad, hbad⟩ : ∃ b, b = (decide (0 < (n : Int)) || !(cmB co)) := ⟨_, rfl⟩
      have HBAD := Lib.hid (show (vB ys).fail bad 4 = vZ ys by rw [hbad, hn, HCO.out]; rfl)
      obtain ⟨hdr, _⟩ := H.out
      obtain ⟨_, _, _, hnl, A6, c6, hb6, hr6⟩ := hdr
      obtain ⟨b0, b1, f0, f1⟩ := blk2 hb6
      have hcap := hr6.cap
      unfold maxLen at hcap
      obtain ⟨_, hc1, hc2⟩ := hcap
      have lrb := hb6.lt
      rw [← hn] at b0 hnl hc1
      clear hb6 hr6 hn
      by_cases hpos : 0 < n
      · have hn2 : (0 : Int) < (n : Int) := by omega
        have eb : bad = true := by rw [hbad, decide_eq_true hn2]; rfl
        clear hbad
        rw [eb] at HBAD
        go_wp2_with fail
        clear b0 b1 f0 f1 lrb
        refine (dbad_any T r true 4 (vB ys) _ H.out.1).mono ?_
        rintro e w8 ⟨rfl, hd⟩
        replace H := Lib.hid (H.out.read hd)
        rw [HBAD.out] at H
        clear hd
        obtain ⟨hdr, hbc, hbz, hbw, _, _, _, hzr, _, hWz, _, _⟩ := H.out
        obtain ⟨_, _, _, _, A8, c8, hb8, _⟩ := hdr
        obtain ⟨b0, b1, f0, f1⟩ := blk2 hb8
        have lrb := hb8.lt
        have HC := Lib.hid hbc
        have HZ := Lib.hid hbz
        have HB := Lib.hid hbw
        have HWZ := Lib.hid hWz
        obtain ⟨E, hE⟩ : ∃ E, E = (vZ ys).e := ⟨_, rfl⟩
        have HE := Lib.hid hE
        rw [← hE] at b1
        clear hb8 hE hbc hbz hbw hWz
        by_cases h0 : E = 0
        · subst h0
          go_wp2_with (first | (refine step_load36 rfl (.tmp 5) rfl g rfl co HK.out (blk_range HC.out) ?_) | (refine step_store36 rfl (.tmp 2) (.tmp 105) rfl z rfl co HK.out rfl _ HZ.out (by simp [Co.len (c := zCo) z32_len]) ?_; intro w9 hb9 hm9 hs9; have HB9 := Lib.hid hb9; have HM9 := Lib.hid hm9; clear hb9 hm9 hs9) | fail)
          refine bodyPost_ret (v := .tuple #[co.v, .int .i64 0]) (by simp [results, Try.results25, asAddr, load36v HB9.out HK.out]) rfl ?_
          exact ⟨co, by rw [← HE.out], HK.out, HB.out.trans (HM9.out.below HB.out.size (fun i hi => by subst hi; exact HWZ.out)), .inl ⟨HE.out.symm, HCO.out⟩⟩
        · have hq : (E != 0) = true := by simpa using h0
          have hi := info36
          have hu := Try.underlying36
          have hth := there_of_blk HZ.out (o := 0) (n := 39) (by simp [Co.len (c := zCo) z32_len])
          have hne : r ≠ z := fun e => hzr e.symm
          have hh1 : zCo.L.toArray.all (·.oneCell') = true := all_one (l := zCo.L) zCo_one
          go_wp2_with fail
          refine wp_region_held_drew (S := (fun w' => w'.cell? ⟨r, 1, none⟩ = some (.int .i64 E))) (by kernel_rfl) (b1) (fun hHeld => ?_)
          refine wpAnyH_take (i := 0) (v := ?_) rfl (by kernel_rfl) (by kernel_rfl) (by kernel_rfl) (fun _ _ _ h => h) (Or.inl ⟨by kernel_rfl, ?_⟩) (by assumption) ?_
          rotate_left 1
          · (intro w hSw; (try dsimp only at hSw); go_simp; try with_reducible rfl)
          try simp only [Act.put, List.getElem_toArray, List.getElem_cons_succ, List.getElem_cons_zero, List.setIfInBounds_toArray, List.set_cons_zero, List.set_cons_succ]
          refine wpAnyH_take (i := 1) (v := ?_) rfl (by kernel_rfl) (by kernel_rfl) (by kernel_rfl) (fun _ _ _ h => h) (Or.inl ⟨by kernel_rfl, ?_⟩) (by assumption) ?_
          rotate_left 1
          · (intro w hSw; (try dsimp only at hSw); go_simp; try with_reducible rfl)
          try simp only [Act.put, List.getElem_toArray, List.getElem_cons_succ, List.getElem_cons_zero, List.setIfInBounds_toArray, List.set_cons_zero, List.set_cons_succ]
          refine wpAnyH_take (i := 2) (v := ?_) rfl (by kernel_rfl) (by kernel_rfl) (by kernel_rfl) (fun _ _ _ h => h) (Or.inl ⟨by kernel_rfl, ?_⟩) (by assumption) ?_
          rotate_left 1
          · (intro w hSw; (try dsimp only at hSw); go_simp; try with_reducible rfl)
          try simp only [Act.put, List.getElem_toArray, List.getElem_cons_succ, List.getElem_cons_zero, List.setIfInBounds_toArray, List.set_cons_zero, List.set_cons_succ]
          refine wpAnyH_take (i := 3) (v := ?_) rfl (by kernel_rfl) (by kernel_rfl) (by kernel_rfl) (fun _ _ _ h => h) (Or.inl ⟨by kernel_rfl, ?_⟩) (by assumption) ?_
          rotate_left 1
          · (intro w hSw; (try dsimp only at hSw); go_simp; try with_reducible rfl)
          try simp only [Act.put, List.getElem_toArray, List.getElem_cons_succ, List.getElem_cons_zero, List.setIfInBounds_toArray, List.set_cons_zero, List.set_cons_succ]
          refine wpAnyH_take (i := 4) (v := ?_) rfl (by kernel_rfl) (by kernel_rfl) (by kernel_rfl) (fun _ _ _ h => h) (Or.inl ⟨by kernel_rfl, ?_⟩) (by assumption) ?_
          rotate_left 1
          · (intro w hSw; (try dsimp only at hSw); go_simp; try with_reducible rfl)
          try simp only [Act.put, List.getElem_toArray, List.getElem_cons_succ, List.getElem_cons_zero, List.setIfInBounds_toArray, List.set_cons_zero, List.set_cons_succ]
          refine wpAnyH_ready (rs := [5]) (by kernel_rfl) (by simp) ?_
          refine AllReadyH.cons rfl (fun K hK => ?_) AllReadyH.nil
          refine wp_store_row 36 (.tmp 2) (.tmp 100) rfl z zCo.L.toArray rfl rfl 36 zCo.L.toArray HZ.out.drew (by rw [info36]; rfl) rfl hh1 ?_
          have HN9 := Lib.hid (show Blk (w8.drew.setRow z zCo.L.toArray) z 36 zCo.L.toArray from HZ.out.drew.setRow _)
          have HM9 := Lib.hid (show Mod (fun j => j = z) w8.drew (w8.drew.setRow z zCo.L.toArray) from (Mod.refl (fun j => j = z) w8.drew).setRow (.inl rfl) _)
          refine hK.out _ _ ((HM9.out.cell (p := ⟨r, 1, none⟩) (show w8.drew.cell? ⟨r, 1, none⟩ = some (.int .i64 E) from b1) hne)) (fun hHeld => ?_)
          clear hK K
          try simp only [Act.put, List.getElem_toArray, List.getElem_cons_succ, List.getElem_cons_zero, List.setIfInBounds_toArray, List.set_cons_zero, List.set_cons_succ]
          refine wpAnyH_take (i := 6) (v := ?_) rfl (by kernel_rfl) (by kernel_rfl) (by kernel_rfl) (fun _ _ _ h => h) (Or.inl ⟨by kernel_rfl, ?_⟩) (by assumption) ?_
          rotate_left 1
          · (intro w hSw; (try dsimp only at hSw); go_simp; try with_reducible rfl)
          try simp only [Act.put, List.getElem_toArray, List.getElem_cons_succ, List.getElem_cons_zero, List.setIfInBounds_toArray, List.set_cons_zero, List.set_cons_succ]
          refine wpAnyH_done (by kernel_rfl) ?_ _
          go_wp2_with fail
          refine bodyPost_ret (v := .tuple #[zCo.v, .int .i64 E]) (by simp [results, Try.results25, asAddr, load36v HN9.out (show zCo.o.ks.length = 32 from z32_len)]) rfl ?_
          exact ⟨zCo, by rw [← HE.out], z32_len, (Bd HB.out).trans (HM9.out.below (Bd HB.out).size (fun i hi => by subst hi; exact HWZ.out)), .inr ⟨by rw [← HE.out]; exact h0, rfl⟩⟩

      · have hn0 : n = 0 := by omega
        subst hn0
        obtain ⟨cm, hcm⟩ : ∃ cm, cm = cmB co := ⟨_, rfl⟩
        have eb : bad = !cm := by rw [hbad, decide_eq_false (by omega), ← hcm]; rfl
        have HCM := Lib.hid hcm
        clear hbad hcm
        rw [eb] at HBAD
        have HC6 := Lib.hid H.out.2.1
        go_wp2_with (first | (refine step_load36 (by first | rfl | simp [Region.wanted, yielded]) (.tmp 5) rfl g rfl co HK.out (blk_range HC6.out) ?_) | fail)
        refine (refmay_any co _ HK.out).mono ?_
        rw [← HCM.out]
        rintro e w7b ⟨rfl, hbm⟩
        replace H := Lib.hid (H.out.later hbm)
        clear hbm b0 b1 f0 f1 lrb HC6
        go_wp2_with fail
        refine (dbad_any T r (!cm) 4 (vB ys) _ H.out.1).mono ?_
        rintro e w8 ⟨rfl, hd⟩
        replace H := Lib.hid (H.out.read hd)
        rw [HBAD.out] at H
        clear hd
        obtain ⟨hdr, hbc, hbz, hbw, _, _, _, hzr, _, hWz, _, _⟩ := H.out
        obtain ⟨_, _, _, _, A8, c8, hb8, _⟩ := hdr
        obtain ⟨b0, b1, f0, f1⟩ := blk2 hb8
        have lrb := hb8.lt
        have HC := Lib.hid hbc
        have HZ := Lib.hid hbz
        have HB := Lib.hid hbw
        have HWZ := Lib.hid hWz
        obtain ⟨E, hE⟩ : ∃ E, E = (vZ ys).e := ⟨_, rfl⟩
        have HE := Lib.hid hE
        rw [← hE] at b1
        clear hb8 hE hbc hbz hbw hWz
        by_cases h0 : E = 0
        · subst h0
          go_wp2_with (first | (refine step_load36 rfl (.tmp 5) rfl g rfl co HK.out (blk_range HC.out) ?_) | (refine step_store36 rfl (.tmp 2) (.tmp 105) rfl z rfl co HK.out rfl _ HZ.out (by simp [Co.len (c := zCo) z32_len]) ?_; intro w9 hb9 hm9 hs9; have HB9 := Lib.hid hb9; have HM9 := Lib.hid hm9; clear hb9 hm9 hs9) | fail)
          refine bodyPost_ret (v := .tuple #[co.v, .int .i64 0]) (by simp [results, Try.results25, asAddr, load36v HB9.out HK.out]) rfl ?_
          exact ⟨co, by rw [← HE.out], HK.out, HB.out.trans (HM9.out.below HB.out.size (fun i hi => by subst hi; exact HWZ.out)), .inl ⟨HE.out.symm, HCO.out⟩⟩
        · have hq : (E != 0) = true := by simpa using h0
          have hi := info36
          have hu := Try.underlying36
          have hth := there_of_blk HZ.out (o := 0) (n := 39) (by simp [Co.len (c := zCo) z32_len])
          have hne : r ≠ z := fun e => hzr e.symm
          have hh1 : zCo.L.toArray.all (·.oneCell') = true := all_one (l := zCo.L) zCo_one
          go_wp2_with fail
          refine wp_region_held_drew (S := (fun w' => w'.cell? ⟨r, 1, none⟩ = some (.int .i64 E))) (by kernel_rfl) (b1) (fun hHeld => ?_)
          refine wpAnyH_take (i := 0) (v := ?_) rfl (by kernel_rfl) (by kernel_rfl) (by kernel_rfl) (fun _ _ _ h => h) (Or.inl ⟨by kernel_rfl, ?_⟩) (by assumption) ?_
          rotate_left 1
          · (intro w hSw; (try dsimp only at hSw); go_simp; try with_reducible rfl)
          try simp only [Act.put, List.getElem_toArray, List.getElem_cons_succ, List.getElem_cons_zero, List.setIfInBounds_toArray, List.set_cons_zero, List.set_cons_succ]
          refine wpAnyH_take (i := 1) (v := ?_) rfl (by kernel_rfl) (by kernel_rfl) (by kernel_rfl) (fun _ _ _ h => h) (Or.inl ⟨by kernel_rfl, ?_⟩) (by assumption) ?_
          rotate_left 1
          · (intro w hSw; (try dsimp only at hSw); go_simp; try with_reducible rfl)
          try simp only [Act.put, List.getElem_toArray, List.getElem_cons_succ, List.getElem_cons_zero, List.setIfInBounds_toArray, List.set_cons_zero, List.set_cons_succ]
          refine wpAnyH_take (i := 2) (v := ?_) rfl (by kernel_rfl) (by kernel_rfl) (by kernel_rfl) (fun _ _ _ h => h) (Or.inl ⟨by kernel_rfl, ?_⟩) (by assumption) ?_
          rotate_left 1
          · (intro w hSw; (try dsimp only at hSw); go_simp; try with_reducible rfl)
          try simp only [Act.put, List.getElem_toArray, List.getElem_cons_succ, List.getElem_cons_zero, List.setIfInBounds_toArray, List.set_cons_zero, List.set_cons_succ]
          refine wpAnyH_take (i := 3) (v := ?_) rfl (by kernel_rfl) (by kernel_rfl) (by kernel_rfl) (fun _ _ _ h => h) (Or.inl ⟨by kernel_rfl, ?_⟩) (by assumption) ?_
          rotate_left 1
          · (intro w hSw; (try dsimp only at hSw); go_simp; try with_reducible rfl)
          try simp only [Act.put, List.getElem_toArray, List.getElem_cons_succ, List.getElem_cons_zero, List.setIfInBounds_toArray, List.set_cons_zero, List.set_cons_succ]
          refine wpAnyH_take (i := 4) (v := ?_) rfl (by kernel_rfl) (by kernel_rfl) (by kernel_rfl) (fun _ _ _ h => h) (Or.inl ⟨by kernel_rfl, ?_⟩) (by assumption) ?_
          rotate_left 1
          · (intro w hSw; (try dsimp only at hSw); go_simp; try with_reducible rfl)
          try simp only [Act.put, List.getElem_toArray, List.getElem_cons_succ, List.getElem_cons_zero, List.setIfInBounds_toArray, List.set_cons_zero, List.set_cons_succ]
          refine wpAnyH_ready (rs := [5]) (by kernel_rfl) (by simp) ?_
          refine AllReadyH.cons rfl (fun K hK => ?_) AllReadyH.nil
          refine wp_store_row 36 (.tmp 2) (.tmp 100) rfl z zCo.L.toArray rfl rfl 36 zCo.L.toArray HZ.out.drew (by rw [info36]; rfl) rfl hh1 ?_
          have HN9 := Lib.hid (show Blk (w8.drew.setRow z zCo.L.toArray) z 36 zCo.L.toArray from HZ.out.drew.setRow _)
          have HM9 := Lib.hid (show Mod (fun j => j = z) w8.drew (w8.drew.setRow z zCo.L.toArray) from (Mod.refl (fun j => j = z) w8.drew).setRow (.inl rfl) _)
          refine hK.out _ _ ((HM9.out.cell (p := ⟨r, 1, none⟩) (show w8.drew.cell? ⟨r, 1, none⟩ = some (.int .i64 E) from b1) hne)) (fun hHeld => ?_)
          clear hK K
          try simp only [Act.put, List.getElem_toArray, List.getElem_cons_succ, List.getElem_cons_zero, List.setIfInBounds_toArray, List.set_cons_zero, List.set_cons_succ]
          refine wpAnyH_take (i := 6) (v := ?_) rfl (by kernel_rfl) (by kernel_rfl) (by kernel_rfl) (fun _ _ _ h => h) (Or.inl ⟨by kernel_rfl, ?_⟩) (by assumption) ?_
          rotate_left 1
          · (intro w hSw; (try dsimp only at hSw); go_simp; try with_reducible rfl)
          try simp only [Act.put, List.getElem_toArray, List.getElem_cons_succ, List.getElem_cons_zero, List.setIfInBounds_toArray, List.set_cons_zero, List.set_cons_succ]
          refine wpAnyH_done (by kernel_rfl) ?_ _
          go_wp2_with fail
          refine bodyPost_ret (v := .tuple #[zCo.v, .int .i64 E]) (by simp [results, Try.results25, asAddr, load36v HN9.out (show zCo.o.ks.length = 32 from z32_len)]) rfl ?_
          exact ⟨zCo, by rw [← HE.out], z32_len, (Bd HB.out).trans (HM9.out.below (Bd HB.out).size (fun i hi => by subst hi; exact HWZ.out)), .inr ⟨by rw [← HE.out]; exact h0, rfl⟩⟩
end

section
theorem refcmd_any (T : Nat → Prop) (A : Option Addr) (c : Nat) (ys : List Int) (W : World) (hr : Rd W T 1 (.slice A ys.length c) ys.length (bts ys)) (hT : ∀ i, T i → i < W.heap.size) (hb : Byt ys) (hl : ys.length ≤ 140737488351232) :
    Calls Try.prog 25 #[.slice A ys.length c] W (CmDid ys W) := by
  have hok : St.Ok (v2 ys) := St.Ok.nx (St.Ok.nx (s := ⟨ys, 0⟩) hb 1) 7
  have h0 : 0 ≤ vKd ys := (St.num_bd (n := 1) (.inl rfl) hok).1
  by_cases h5 : 5 < vKd ys
  · exact refcmd_k6 T A c ys W hr hT hb hl h5
  · obtain h | h | h | h | h | h : vKd ys = 0 ∨ vKd ys = 1 ∨ vKd ys = 2 ∨ vKd ys = 3 ∨ vKd ys = 4 ∨ vKd ys = 5 := by omega
    · exact refcmd_k0 T A c ys W hr hT hb hl h
    · exact refcmd_k1 T A c ys W hr hT hb hl h
    · exact refcmd_k2 T A c ys W hr hT hb hl h
    · exact refcmd_k3 T A c ys W hr hT hb hl h
    · exact refcmd_k4 T A c ys W hr hT hb hl h
    · exact refcmd_k5 T A c ys W hr hT hb hl h

theorem CmDid.co {ys : List Int} {c d : Co} (hc : ((vZ ys).e = 0 ∧ c = vC ys) ∨ ((vZ ys).e ≠ 0 ∧ c = zCo)) (hd : ((vZ ys).e = 0 ∧ d = vC ys) ∨ ((vZ ys).e ≠ 0 ∧ d = zCo)) : c = d := by
  rcases hc with ⟨h0, h1⟩ | ⟨h0, h1⟩ <;> rcases hd with ⟨g0, g1⟩ | ⟨g0, g1⟩
  · rw [h1, g1]
  · exact absurd h0 g0
  · exact absurd g0 h0
  · rw [h1, g1]

set_option maxHeartbeats 8000000 in
theorem postCommands_at (W : World) (T : Nat → Prop) (A : Option Addr) (c : Nat) (ys : List Int) (hr : Rd W T 1 (.slice A ys.length c) ys.length (bts ys)) (hT : ∀ i, T i → i < W.heap.size) (hy : Byt ys) (hl : ys.length ≤ 140737488351232) :
    Calls Try.prog 7 #[.slice A ys.length c] W fun e w' => e = .returned (.bool true) ∧ Below W.heap.size W w' := by
  have HR := Lib.hid hr
  have HT := Lib.hid hT
  have HY := Lib.hid hy
  have HL := Lib.hid hl
  clear hr hT hy hl
  go_enter Try.func7, Try.ntmps7
  go_wp2_with fail
  refine (copy_bytes _ _ ys W HR.out (by have := HL.out; omega)).mono ?_
  rintro e w1 ⟨A1, c1, rfl, hf⟩
  have HB := Lib.hid hf.kept
  have HF := Lib.hid hf.rd
  replace HR := Lib.hid (HR.out.below hf.kept HT.out)
  clear hf
  go_wp2_with fail
  refine (command_any _ A1 c1 ys w1 HF.out (fun _ h => h) HY.out HL.out).mono ?_
  rintro e w2 ⟨Q, rfl, hqk, hk, hcase⟩
  replace HF := Lib.hid (HF.out.below hk (fun _ h => h))
  replace HR := Lib.hid (HR.out.below hk (fun i hi => Nat.lt_of_lt_of_le (HT.out i hi) HB.out.size))
  replace HB := Lib.hid (Bt HB.out hk)
  have HQ := Lib.hid (And.intro hqk hcase)
  have HS1 := Lib.hid hk.size
  clear hk hqk hcase
  obtain ⟨E, hE⟩ : ∃ E, E = (vZ ys).e := ⟨_, rfl⟩
  rw [← hE]
  have HE := Lib.hid hE
  clear hE
  go_wp2_with (first | (refine step_store36 rfl (.tmp 4) (.tmp 13) rfl w2.heap.size rfl Q HQ.out.1 rfl _ (Blk.new w2 36 _) rfl ?_; intro w3 hb3 hm3 hs3; have HM3 := Lib.hid hm3; have HG3 := Lib.hid hb3; clear hb3 hm3 hs3) | fail)
  have hk : Below w2.heap.size w2 w3 := Bm (Ba (B0 w2) _) HM3.out (fun i hi => by omega)
  replace HF := Lib.hid (HF.out.below hk (fun i hi => Nat.lt_of_lt_of_le hi HS1.out))
  replace HR := Lib.hid (HR.out.below hk (fun i hi => Nat.lt_of_lt_of_le (HT.out i hi) HB.out.size))
  replace HB := Lib.hid (Bt HB.out hk)
  have HS3 := Lib.hid (Nat.le_trans HS1.out hk.size)
  clear hk HM3
  refine (refcmd_any T A c ys w3 HR.out (fun i hi => Nat.lt_of_lt_of_le (HT.out i hi) HB.out.size) HY.out HL.out).mono ?_
  rintro e w4 ⟨Q', rfl, hqk, hk, hcase⟩
  rw [← HE.out]
  obtain rfl : Q = Q' := CmDid.co HQ.out.2 hcase
  replace HG3 := Lib.hid (HG3.out.later hk)
  replace HF := Lib.hid (HF.out.below hk (fun i hi => Nat.lt_of_lt_of_le hi HS3.out))
  have HS4 := Lib.hid (Nat.le_trans HS3.out hk.size)
  replace HR := Lib.hid (HR.out.below hk (fun i hi => Nat.lt_of_lt_of_le (HT.out i hi) HB.out.size))
  replace HB := Lib.hid (Bt HB.out hk)
  have HQK := Lib.hid hqk
  have HSZ := Lib.hid HG3.out.lt
  clear hk hcase hqk
  go_wp2_with (first | (refine step_store36 rfl (.tmp 6) (.tmp 18) rfl w4.heap.size rfl Q HQK.out rfl _ (Blk.new w4 36 _) rfl ?_; intro w5 hb5 hm5 hs5; have HM5 := Lib.hid hm5; have HG5 := Lib.hid hb5; have HG4 := Lib.hid ((HG3.out.alloc _).kept hm5 (by have := HSZ.out; omega)); clear hb5 hm5 hs5) | (refine step_load36 rfl (.tmp 4) rfl w2.heap.size rfl Q HQK.out (blk_range HG4.out) ?_) | (refine step_load36 rfl (.tmp 6) rfl w4.heap.size rfl Q HQK.out (blk_range HG5.out) ?_) | (refine step_cmp36 rfl .eql (.inl rfl) (.tmp 24) (.tmp 25) rfl Q Q rfl rfl HQK.out HQK.out true (by rw [if_pos rfl, coB_refl]) ?_) | fail)
  have hk : Below w4.heap.size w4 w5 := Bm (Ba (B0 w4) _) HM5.out (fun i hi => by omega)
  replace HF := Lib.hid (HF.out.below hk (fun i hi => Nat.lt_of_lt_of_le hi HS4.out))
  replace HR := Lib.hid (HR.out.below hk (fun i hi => Nat.lt_of_lt_of_le (HT.out i hi) HB.out.size))
  replace HB := Lib.hid (Bt HB.out hk)
  clear hk HM5 HG5 HG4 HG3
  refine (eq_bytes _ _ _ _ ys ys w5 HF.out HR.out).mono ?_
  rintro e w6 ⟨rfl, nd, hw6⟩
  rw [show eqB ys ys = true by simp [eqB]]
  have hk : Below w5.heap.size w5 w6 := by rw [hw6]; exact BdN (B0 w5) nd
  replace HB := Lib.hid (Bt HB.out hk)
  clear hk hw6
  go_wp2_with fail
  go_ret
  exact ⟨rfl, HB.out⟩
theorem postCommands_walk {H : Type} {enc : TypeId × Value → H} (W : World) {base : Nat} {sp : Nat → Bool} {held : Bool} {v : Value} {d : DataW H} {pl : List MemPlace} (hv : Value.okWide Try.prog W .any base 23 v) (ht : DataW.Trod enc Try.prog W 0 sp held 23 v d pl)
    (hz : ∀ n ∈ d.weights Try.prog 23, n ≤ reachBytes) :
    Calls Try.prog 7 #[v] W fun e w' => e = .returned (.bool true) ∧ Below W.heap.size W w' := by
  obtain ⟨A, c, xs, rfl, hxb, hl, hr⟩ := open_bytes hv ht hz
  exact postCommands_at W _ A c xs hr (fun i hi => hi) hxb hl
end
end Go.Proofs.Ytnphnaggamfoiaa
