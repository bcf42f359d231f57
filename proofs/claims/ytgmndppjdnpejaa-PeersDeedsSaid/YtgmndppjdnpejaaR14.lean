/- Tables are as the chapter says, of all deeds: PeersDeeds. -/
import Derived.Test.YtgmndppjdnpejaaR13
namespace Go.Proofs.Ytgmndppjdnpejaa
open Go.RowKit
set_option maxRecDepth 20000
set_option linter.unusedVariables false
set_option linter.unusedSimpArgs false

def k9 : List Int := 9 :: List.replicate 31 0
theorem build_k9 (w : World) : (Instr.build 31 ([(0, .int .u8 9)] : List (Nat × Value)).toArray).run Try.prog w = .ok (.agg (bts k9).toArray) w := by kernel_rfl
structure DdIn (W : World) (d : Dd) : Prop where
  nm : NmAt W (fun i => i < W.heap.size) d.m
  ok : DdOk d
  z0 : d.m.ps.length * 96 ≤ 140737488355328
  z1 : ∀ p ∈ d.m.ps, p.ins.length * 16 ≤ 140737488355328 ∧ p.outs.length * 16 ≤ 140737488355328
/-- What the loop keeps. -/
structure Kept (W w : World) (S T : Nat → Prop) (g h : Nat) (node tick : Int) (has : Bool) (m : Nm) (qs : List Pe) : Prop where
  ta : TbAt w S g node tick m.ver qs
  rt : RtAt w T h node has m tick
  lk : Link m qs
  zv : has = false → m.ver = 0
  z0 : m.ps.length * 96 ≤ 140737488355328
  bel : Below W.heap.size W w
  sW : ∀ i, S i → W.heap.size ≤ i
  tW : ∀ i, T i → W.heap.size ≤ i
  st : ∀ i, S i → ¬ T i
set_option maxHeartbeats 16000000 in
theorem peersDeeds_at (node : Int) (A : Option Addr) (c : Nat) (ds : List Dd) (W : World) (hr : Rd W (fun i => i < W.heap.size) 72 (.slice A ds.length c) ds.length (ds.flatMap Dd.L)) (hds : ∀ d ∈ ds, DdIn W d) :
    Calls Try.prog 3 #[.int .i64 node, .slice A ds.length c] W fun e w' => e = .returned (.bool true) ∧ Below W.heap.size W w' := by
  have hcap := hr.cap.2
  have hc1 := hcap.1
  have hc2 := hcap.2
  unfold maxLen at hc2
  have HR := Lib.hid hr
  have HDS := Lib.hid hds
  obtain ⟨K9, hK9⟩ : ∃ K, K = bts k9 := ⟨_, rfl⟩
  have HB9 := Lib.hid (show ∀ w, (Instr.build 31 ([(0, .int .u8 9)] : List (Nat × Value)).toArray).run Try.prog w = .ok (.agg K9.toArray) w by rw [hK9]; exact build_k9)
  have HK9 := Lib.hid (show K9.length = 32 by rw [hK9]; rfl)
  have HO9 := Lib.hid (show ∀ u ∈ K9, u.oneCell' = true by rw [hK9]; exact bts_one' _)
  clear hK9
  clear hr hds hcap
  cases hnd : ndB node
  · have HND := Lib.hid hnd
    clear hnd
    rcases Nat.eq_zero_or_pos ds.length with h0 | h0
    all_goals
      go_enter Try.func3, Try.ntmps3
      go_wp2_with fail
      refine (new_bad node W HND.out).mono ?_
      rintro e w' ⟨rfl, rfl⟩
      go_wp2_with fail
      refine (rnew_bad node W HND.out).mono ?_
      rintro e w' ⟨rfl, rfl⟩
      go_wp2_with fail
      go_loopw [9] (fun i wr => i = .int .i64 0 ∧ wr = W) (fun _ _ => 0)
      case atStart => exact ⟨rfl, rfl⟩
      case round =>
        obtain ⟨rfl, rfl⟩ := hrel
        go_wp2_with fail
        refine (works_any wr).mono ?_
        rintro e w2 ⟨rfl, hb2⟩
        have HB2 := Lib.hid hb2
        clear hb2
        go_wp2_with fail
        go_ret
        exact ⟨rfl, HB2.out⟩
  · have hn1 := (ndB_le hnd).1
    have HND := Lib.hid hnd
    clear hnd
    go_enter Try.func3, Try.ntmps3
    go_wp2_with fail
    refine (new_ok node W HND.out).mono ?_
    rintro e w1 ⟨g, rfl, ha, hgW, hb1⟩
    have HA1 := Lib.hid ha
    have HB1 := Lib.hid hb1
    have HGW := Lib.hid hgW
    clear ha hb1 hgW
    go_wp2_with fail
    refine (rnew_ok node w1 HND.out).mono ?_
    rintro e w2 ⟨h, rfl, hrt, hhW, hb2⟩
    have HK0 := Lib.hid (show Kept W w2 (fun i => i = g) (fun i => i = h) g h node 0 false zNm [] from ⟨HA1.out.below hb2, hrt, ⟨rfl, .inr rfl⟩, fun _ => rfl, by simp [zNm], Bt HB1.out hb2, fun i hi => by subst hi; exact HGW.out, fun i hi => by subst hi; exact Nat.le_trans HB1.out.size hhW, fun i h1 h2 => by have := HA1.out.2.1 g rfl; omega⟩)
    clear hrt hhW hb2
    go_wp2_with fail
    go_loopw [9] (fun i wr => ∃ (k : Nat) (S T : Nat → Prop) (tick : Int) (has : Bool) (m : Nm) (qs : List Pe), k ≤ ds.length ∧ k ≤ 60 ∧ i = .int .i64 k ∧ Kept W wr S T g h node tick has m qs) (fun i _ => ds.length - (intOf i).toNat)
    case atStart => exact ⟨0, _, _, 0, false, zNm, [], Nat.zero_le _, by omega, rfl, HK0.out⟩
    case round =>
      obtain ⟨k, S, T, tick, has, m, qs, hk, hk60, rfl, hkp⟩ := hrel
      obtain ⟨wv, rfl⟩ : ∃ wv, wv = wr := ⟨_, rfl⟩
      have HK := Lib.hid hkp
      clear hkp
      by_cases hlt : k < ds.length
      · have hlt' : (k : Int) < (ds.length : Int) := by omega
        have hk0 : (0 : Int) ≤ (k : Int) := by omega
        by_cases h60 : k < 60
        · have h60' : (k : Int) < 60 := by omega
          have hbw := HK.out.bel
          obtain ⟨gl, ol, hA, hgl, hra⟩ := row_at HR.out (fun d hd => Dd.len (HDS.out d hd).ok) hlt
          subst hA
          obtain ⟨d, hd⟩ : ∃ d, d = ds[k] := ⟨_, rfl⟩
          rw [← hd] at hra
          have HDI := Lib.hid (show DdIn W d by rw [hd]; exact HDS.out _ (List.getElem_mem hlt))
          have HROW := Lib.hid (show ∀ w', Below W.heap.size W w' → w'.rangeAt gl (ol + k * 72) d.L from fun w' hb => range_below hra hb hgl)
          have HML := Lib.hid (Nm.len HDI.out.ok.m32)
          have HDL := Lib.hid (Dd.len HDI.out.ok)
          have HMV := Lib.hid (HDI.out.nm.below hbw (fun i hi => hi))
          have hW7 := hbw.size
          have HMS := Lib.hid (show ∀ i, i < W.heap.size → i < wv.heap.size from fun i hi => Nat.lt_of_lt_of_le hi hW7)
          have HXM := Lib.hid (dd_cells (HROW.out wv hbw) HDI.out.ok).2.1
          clear hd hra hbw
          go_wp2_with (first | (refine step_load big_map (by first | rfl | simp [Region.wanted, yielded]) (.tmp 50) rfl gl (ol + k * 72 + 1) rfl d.m.L HML.out HXM.out ?_) | fail)
          refine (copy_any _ d.m wv HMV.out HMS.out HDI.out.z0 HDI.out.z1).mono ?_
          rintro e w2 ⟨n, rfl, hne, hno, hb2⟩
          have HNE := Lib.hid hne
          have HNK := Lib.hid (show n.ks.length = 32 by rw [hne.ks]; exact HDI.out.ok.m32)
          have HNL := Lib.hid (Nm.len HNK.out)
          have HNO := Lib.hid (show ∀ v ∈ n.L, v.oneCell' = true from n.one)
          have HOW := Lib.hid hno
          have HB2 := Lib.hid hb2
          clear hne hno hb2
          go_upto_region 9 with (first | (refine step_store big_map rfl (.tmp 10) (.tmp 52) rfl w2.heap.size rfl n.L HNL.out HNO.out rfl 34 _ (Blk.new w2 34 _) rfl ?_; intro w3 hb3 hm3 hs3; have HB3 := Lib.hid hb3; have HM3 := Lib.hid hm3; have HS3 := Lib.hid hs3; clear hb3 hm3 hs3) | fail)
          have hs3 : w3.heap.size = w2.heap.size + 1 := by have := HS3.out; simpa using this
          have hb23 : Below w2.heap.size w2 w3 := Bm (Ba (B0 w2) _) HM3.out (fun i hi => by omega)
          have HB3W := Lib.hid (Bt HB2.out hb23)
          have HBW3 := Lib.hid (Bt HK.out.bel HB3W.out)
          have HIN := Lib.hid (in_at (HOW.out.later hb23) (fun q hq => by
            obtain ⟨p, hp, e⟩ := mem_px HNE.out.ps hq
            rw [show q.ks = p.ks from congrArg Px.ks e]
            exact (HMV.out.each p hp).k32) HB3.out HB2.out.size)
          have HNA := Lib.hid (nm_own (HOW.out.later hb23) HNE.out HDI.out.ok.m32 HDI.out.nm.kb (fun p hp => ⟨(HMV.out.each p hp).k32, (HMV.out.each p hp).kb⟩))
          have HT3 := Lib.hid (HK.out.ta.below HB3W.out)
          have HR3 := Lib.hid (HK.out.rt.below HB3W.out)
          have hsv : wv.heap.size ≤ w2.heap.size := HB2.out.size
          have hd0 := (dd_cells (HROW.out w3 HBW3.out) HDI.out.ok).1
          have hd38 := (dd_cells (HROW.out w3 HBW3.out) HDI.out.ok).2.2.1
          have hgl3 : gl < w3.heap.size := by omega
          obtain ⟨st, hst⟩ : ∃ x, x = d.st := ⟨_, rfl⟩
          obtain ⟨tk, htk⟩ : ∃ x, x = d.tk := ⟨_, rfl⟩
          rw [← hst] at hd0
          rw [← htk] at hd38
          clear hb23 hst htk HB3 HM3 HS3
          cases st
          · go_wp2_with fail
            have hgv : g < wv.heap.size := HK.out.ta.2.1 g HK.out.ta.1
            have hhv : h < wv.heap.size := HK.out.rt.lts h HK.out.rt.mem
            have hgW : W.heap.size ≤ g := HK.out.sW g HK.out.ta.1
            have hhW : W.heap.size ≤ h := HK.out.tW h HK.out.rt.mem
            have hgh : g ≠ h := fun e => HK.out.st g HK.out.ta.1 (by rw [e]; exact HK.out.rt.mem)
            have HNM3 := Lib.hid (HDI.out.nm.below HBW3.out (fun i hi => hi))
            have HSL := Lib.hid (show ∀ i, S i → i < wv.heap.size from HK.out.ta.2.1)
            have HTL := Lib.hid (show ∀ i, T i → i < wv.heap.size from HK.out.rt.lts)

            obtain ⟨E, hEq⟩ : ∃ E, E = nowE tick tk := ⟨_, rfl⟩
            have HEQ := Lib.hid hEq
            have hEE : (E != E) = false := by simp
            clear hEq
            refine wp_region_held_drew (S := fun w' => w'.cell? ⟨gl, ol + k * 72 + 38, none⟩ = some (.int .i64 tk)) (by kernel_rfl) (((Bd (B0 w3)).cell (p := ⟨gl, ol + k * 72 + 38, none⟩) hgl3).trans hd38) (fun hHeld => ?_)
            refine wpAnyH_take (i := 0) (v := ?_) rfl (by kernel_rfl) (by kernel_rfl) (by kernel_rfl) (fun _ _ _ h => h) (Or.inl ⟨by kernel_rfl, ?_⟩) (by assumption) ?_
            rotate_left 1
            · (intro w hSw; (try dsimp only at hSw); go_simp; try with_reducible rfl)
            try simp only [Act.put, List.getElem_toArray, List.getElem_cons_succ, List.getElem_cons_zero, List.setIfInBounds_toArray, List.set_cons_zero, List.set_cons_succ]
            refine wpAnyH_take (i := 1) (v := ?_) rfl (by kernel_rfl) (by kernel_rfl) (by kernel_rfl) (fun _ _ _ h => h) (Or.inl ⟨by kernel_rfl, ?_⟩) (by assumption) ?_
            rotate_left 1
            · (intro w hSw; (try dsimp only at hSw); go_simp; try with_reducible rfl)
            try simp only [Act.put, List.getElem_toArray, List.getElem_cons_succ, List.getElem_cons_zero, List.setIfInBounds_toArray, List.set_cons_zero, List.set_cons_succ]
            refine wpAnyH_take (i := 2) (v := ?_) rfl (by kernel_rfl) (by kernel_rfl) (by kernel_rfl) (fun _ _ _ h => h) (Or.inl ⟨by kernel_rfl, ?_⟩) (by assumption) ?_
            rotate_left 1
            · (intro w hSw; (try dsimp only at hSw); go_simp; try with_reducible rfl)
            try simp only [Act.put, List.getElem_toArray, List.getElem_cons_succ, List.getElem_cons_zero, List.setIfInBounds_toArray, List.set_cons_zero, List.set_cons_succ]
            refine wpAnyH_take (i := 3) (v := ?_) rfl (by kernel_rfl) (by kernel_rfl) (by kernel_rfl) (fun _ _ _ h => h) (Or.inl ⟨by kernel_rfl, ?_⟩) (by assumption) ?_
            rotate_left 1
            · (intro w hSw; (try dsimp only at hSw); go_simp; try with_reducible rfl)
            try simp only [Act.put, List.getElem_toArray, List.getElem_cons_succ, List.getElem_cons_zero, List.setIfInBounds_toArray, List.set_cons_zero, List.set_cons_succ]
            refine wpAnyH_take (i := 4) (v := ?_) rfl (by kernel_rfl) (by kernel_rfl) (by kernel_rfl) (fun _ _ _ h => h) (Or.inl ⟨by kernel_rfl, ?_⟩) (by assumption) ?_
            rotate_left 1
            · (intro w hSw; (try dsimp only at hSw); go_simp; try with_reducible rfl)
            try simp only [Act.put, List.getElem_toArray, List.getElem_cons_succ, List.getElem_cons_zero, List.setIfInBounds_toArray, List.set_cons_zero, List.set_cons_succ]
            refine wpAnyH_take (i := 5) (v := ?_) rfl (by kernel_rfl) (by kernel_rfl) (by kernel_rfl) (fun _ _ _ h => h) (Or.inl ⟨by kernel_rfl, ?_⟩) (by assumption) ?_
            rotate_left 1
            · (intro w hSw; (try dsimp only at hSw); go_simp; try with_reducible rfl)
            try simp only [Act.put, List.getElem_toArray, List.getElem_cons_succ, List.getElem_cons_zero, List.setIfInBounds_toArray, List.set_cons_zero, List.set_cons_succ]
            refine wpAnyH_take (i := 7) (v := ?_) rfl (by kernel_rfl) (by kernel_rfl) (by kernel_rfl) (fun _ _ _ h => h) (Or.inl ⟨by kernel_rfl, ?_⟩) (by assumption) ?_
            rotate_left 1
            · (intro w hSw; (try dsimp only at hSw); go_simp; try with_reducible rfl)
            try simp only [Act.put, List.getElem_toArray, List.getElem_cons_succ, List.getElem_cons_zero, List.setIfInBounds_toArray, List.set_cons_zero, List.set_cons_succ]
            refine wpAnyH_take (i := 8) (v := ?_) rfl (by kernel_rfl) (by kernel_rfl) (by kernel_rfl) (fun _ _ _ h => h) (Or.inl ⟨by kernel_rfl, ?_⟩) (by assumption) ?_
            rotate_left 1
            · (intro w hSw; (try dsimp only at hSw); go_simp; try with_reducible rfl)
            try simp only [Act.put, List.getElem_toArray, List.getElem_cons_succ, List.getElem_cons_zero, List.setIfInBounds_toArray, List.set_cons_zero, List.set_cons_succ]
            refine wpAnyH_take (i := 9) (v := ?_) rfl (by kernel_rfl) (by kernel_rfl) (by kernel_rfl) (fun _ _ _ h => h) (Or.inl ⟨by kernel_rfl, ?_⟩) (by assumption) ?_
            rotate_left 1
            · (intro w hSw; (try dsimp only at hSw); go_simp; try with_reducible rfl)
            try simp only [Act.put, List.getElem_toArray, List.getElem_cons_succ, List.getElem_cons_zero, List.setIfInBounds_toArray, List.set_cons_zero, List.set_cons_succ]
            refine wpAnyH_take (i := 10) (v := ?_) rfl (by kernel_rfl) (by kernel_rfl) (by kernel_rfl) (fun _ _ _ h => h) (Or.inl ⟨by kernel_rfl, ?_⟩) (by assumption) ?_
            rotate_left 1
            · (intro w hSw; (try dsimp only at hSw); go_simp; try with_reducible rfl)
            try simp only [Act.put, List.getElem_toArray, List.getElem_cons_succ, List.getElem_cons_zero, List.setIfInBounds_toArray, List.set_cons_zero, List.set_cons_succ]
            refine wpAnyH_take (i := 11) (v := ?_) rfl (by kernel_rfl) (by kernel_rfl) (by kernel_rfl) (fun _ _ _ h => h) (Or.inl ⟨by kernel_rfl, ?_⟩) (by assumption) ?_
            rotate_left 1
            · (intro w hSw; (try dsimp only at hSw); go_simp; try with_reducible rfl)
            try simp only [Act.put, List.getElem_toArray, List.getElem_cons_succ, List.getElem_cons_zero, List.setIfInBounds_toArray, List.set_cons_zero, List.set_cons_succ]
            refine wpAnyH_take (i := 12) (v := ?_) rfl (by kernel_rfl) (by kernel_rfl) (by kernel_rfl) (fun _ _ _ h => h) (Or.inl ⟨by kernel_rfl, ?_⟩) (by assumption) ?_
            rotate_left 1
            · (intro w hSw; (try dsimp only at hSw); go_simp; try with_reducible rfl)
            try simp only [Act.put, List.getElem_toArray, List.getElem_cons_succ, List.getElem_cons_zero, List.setIfInBounds_toArray, List.set_cons_zero, List.set_cons_succ]
            refine wpAnyH_ready (rs := [6]) (by kernel_rfl) (by simp) ?_
            refine AllReadyH.cons rfl (fun K hK => ?_) AllReadyH.nil
            go_simp
            refine (now_any S g node tick m.ver tk qs _ (HT3.out.below (Bd (B0 w3))) hn1).mono ?_; unfold NowDid; rw [← HEQ.out]; rintro e v6 ⟨rfl, ht6, hm6⟩; have HT6 := Lib.hid ht6; have HM6 := Lib.hid (show Mod (fun i => i = g) w3 v6 from ⟨hm6.os, hm6.tape, hm6.output, hm6.size, hm6.block⟩); clear ht6 hm6; dsimp only
            refine hK.out _ _ (HM6.out.cell (p := ⟨gl, ol + k * 72 + 38, none⟩) hd38 (fun e => by have e2 : gl = g := e; omega)) (fun hHeld => ?_)
            clear hK K
            try simp only [Act.put, List.getElem_toArray, List.getElem_cons_succ, List.getElem_cons_zero, List.setIfInBounds_toArray, List.set_cons_zero, List.set_cons_succ]
            refine wpAnyH_ready (rs := [13]) (by kernel_rfl) (by simp) ?_
            refine AllReadyH.cons rfl (fun K hK => ?_) AllReadyH.nil
            go_simp
            refine (rnow_any T h node tick tk has m v6 (HR3.out.kept HM6.out (fun i hi e => by subst e; exact HK.out.st i HK.out.ta.1 hi))).mono ?_; unfold RNowDid; rw [← HEQ.out]; rintro e v13 ⟨rfl, ht13, hm13⟩; have HT13 := Lib.hid ht13; have HM13 := Lib.hid hm13; clear ht13 hm13; dsimp only
            refine hK.out _ _ (HM13.out.cell (p := ⟨gl, ol + k * 72 + 38, none⟩) (HM6.out.cell (p := ⟨gl, ol + k * 72 + 38, none⟩) hd38 (fun e => by have e2 : gl = g := e; omega)) (fun e => by have e2 : gl = h := e; omega)) (fun hHeld => ?_)
            clear hK K
            try simp only [Act.put, List.getElem_toArray, List.getElem_cons_succ, List.getElem_cons_zero, List.setIfInBounds_toArray, List.set_cons_zero, List.set_cons_succ]
            refine wpAnyH_take (i := 14) (v := ?_) rfl (by kernel_rfl) (by kernel_rfl) (by kernel_rfl) (fun _ _ _ h => h) (Or.inl ⟨by kernel_rfl, ?_⟩) (by assumption) ?_
            rotate_left 1
            · (intro w hSw; (try dsimp only at hSw); go_simp; try with_reducible rfl)
            try simp only [Act.put, List.getElem_toArray, List.getElem_cons_succ, List.getElem_cons_zero, List.setIfInBounds_toArray, List.set_cons_zero, List.set_cons_succ]
            refine wpAnyH_done (by kernel_rfl) ?_ _
            have HKS := Lib.hid (show Kept W v13 S T g h node (nowT tick tk) has m qs from
              ⟨HT6.out.kept HM13.out (fun i hi e => by subst e; exact HK.out.st i hi HK.out.rt.mem), HT13.out, HK.out.lk, HK.out.zv, HK.out.z0, Bm (Bm HBW3.out HM6.out (fun i hi => by omega)) HM13.out (fun i hi => by omega), HK.out.sW, HK.out.tW, HK.out.st⟩)
            have HFS := Lib.hid (show ∀ i, S i → i < wv.heap.size ∨ w3.heap.size ≤ i from fun i hi => .inl (HSL.out i hi))
            have HFT := Lib.hid (show ∀ i, T i → i < wv.heap.size ∨ w3.heap.size ≤ i from fun i hi => .inl (HTL.out i hi))
            have HINT := Lib.hid ((HIN.out.kept HM6.out (fun i hi => .inl (by omega))).kept HM13.out (fun i hi => .inl (by omega)))
            clear hHeld
            have hw12 : w2.heap.size < w3.heap.size := by omega
            have HNQ := Lib.hid (show n.PA = n.PA from rfl)
            go_wp2_with fail
            go_loopw [11] (fun i wr => ∃ kk : Nat, kk ≤ n.ps.length ∧ i = .int .i64 kk ∧ InAt wr wv.heap.size w3.heap.size w2.heap.size n ∧ Mod (fun i => wv.heap.size ≤ i ∧ i < w3.heap.size) v13 wr) (fun i _ => n.ps.length - (intOf i).toNat)
            case atStart => exact ⟨0, Nat.zero_le _, rfl, HINT.out, Mod.refl _ _⟩
            case round =>
              obtain ⟨kk, hkk, rfl, hia, hmd⟩ := hrel
              obtain ⟨wx, rfl⟩ : ∃ wx, wx = wr := ⟨_, rfl⟩
              have HIA := Lib.hid hia
              have HMD := Lib.hid hmd
              have x36 := (nm_cells (blk_range HIA.out.box) HNK.out).2.2.2.2.2
              rw [Nat.zero_add] at x36
              have lb := HIA.out.box.lt
              have hnc := HNA.out.rp.cap
              have hn1' := hnc.2.1
              have hn2' := hnc.2.2
              unfold maxLen at hn2'
              clear hia hmd hnc
              by_cases hkl : kk < n.ps.length
              · have hkl' : (kk : Int) < (n.ps.length : Int) := by omega
                have hkk0 : (0 : Int) ≤ (kk : Int) := by omega
                have hrow := HIA.out.row
                rcases hrow with e | ⟨gp, cur, hpa, hgp1, hgp2, hblk, hcl, hcur⟩
                · omega
                · have HPA := Lib.hid hpa
                  have HKQ := Lib.hid (show ∀ q ∈ n.ps, q.ks.length = 32 from fun q hq => (HNA.out.each q hq).k32)
                  obtain ⟨q, hq⟩ : ∃ q, q = n.ps[kk] := ⟨_, rfl⟩
                  have HQM := Lib.hid (show q ∈ n.ps by rw [hq]; exact List.getElem_mem hkl)
                  have HQQ := Lib.hid hq
                  have hqi := (HNA.out.each q HQM.out).ri.cap
                  have hqi1 := hqi.2.1
                  have hqi2 := hqi.2.2
                  unfold maxLen at hqi2
                  rw [hpa] at x36
                  clear hq hblk hcur hqi hgp1 hgp2 hcl
                  go_wp2_with fail
                  go_loopw [12] (fun i wr => ∃ j : Nat, j ≤ q.ins.length ∧ i = .int .i64 j ∧ InAt wr wv.heap.size w3.heap.size w2.heap.size n ∧ Mod (fun i => wv.heap.size ≤ i ∧ i < w3.heap.size) v13 wr) (fun i _ => q.ins.length - (intOf i).toNat)
                  case atStart => exact ⟨0, Nat.zero_le _, rfl, HIA.out, HMD.out⟩
                  case round =>
                    obtain ⟨j, hj, rfl, hia, hmd⟩ := hrel
                    obtain ⟨wy, rfl⟩ : ∃ wy, wy = wr := ⟨_, rfl⟩
                    have HIY := Lib.hid hia
                    have HMY := Lib.hid hmd
                    have y36 := (nm_cells (blk_range HIY.out.box) HNK.out).2.2.2.2.2
                    rw [Nat.zero_add, HPA.out] at y36
                    have lby := HIY.out.box.lt
                    have hrow := HIY.out.row
                    rcases hrow with e | ⟨g2, cur, hpa2, hgp1, hgp2, hblk, hcl, hcur⟩
                    · omega
                    · rw [HPA.out] at hpa2
                      injection hpa2 with hpa2
                      injection hpa2 with hpa2 _
                      subst hpa2
                      have HBK := Lib.hid hblk
                      have HCL := Lib.hid hcl
                      have p34 : wy.cell? ⟨gp, kk * 36 + 34, none⟩ = some (.slice q.IA q.ins.length q.ic) := by
                        rw [hblk.cell, List.getElem?_toArray, hcur kk hkl, HQQ.out]
                      have lgp := hblk.lt
                      clear hia hmd hblk hcur hcl
                      by_cases hjl : j < q.ins.length
                      · have hjl' : (j : Int) < (q.ins.length : Int) := by omega
                        have hj0 : (0 : Int) ≤ (j : Int) := by omega
                        rcases (HIY.out.ins q HQM.out).2 with e | ⟨gi, cs, hia2, hgi1, hgi2, hbi, hci⟩
                        · omega
                        · have HBI := Lib.hid hbi
                          have s0 : wy.cell? ⟨gi, j * 2, none⟩ = some (cs[j * 2]'(by omega)) := by rw [hbi.cell, List.getElem?_toArray, List.getElem?_eq_getElem (by omega)]
                          have s1 : wy.cell? ⟨gi, j * 2 + 1, none⟩ = some (cs[j * 2 + 1]'(by omega)) := by rw [hbi.cell, List.getElem?_toArray, List.getElem?_eq_getElem (by omega)]
                          have f0 := hbi.frozen (j * 2)
                          have f1 := hbi.frozen (j * 2 + 1)
                          have lgi := hbi.lt
                          rw [hia2] at p34
                          have HG1 := Lib.hid (And.intro hgi1 hgi2)
                          clear hbi hgi1 hgi2 hia2
                          go_wp2_with fail
                          go_roundw
                          case rel => exact ⟨j + 1, by omega, by go_num, HIY.out.span HBI.out (j * 2) _ _, (HMY.out.setCell (p := ⟨gi, j * 2, none⟩) (.inl HG1.out) _).setCell (p := ⟨gi, j * 2 + 1, none⟩) (.inl HG1.out) _⟩
                          case measure => simp [intOf]; omega
                      · obtain rfl : j = q.ins.length := by omega
                        have HRG := Lib.hid (And.intro hgp1 hgp2)
                        have HCL2 := Lib.hid (show kk * 36 + 1 + 32 ≤ cur.length by have := HCL.out; omega)
                        clear hgp1 hgp2
                        go_wp2_with (first | (refine step_build (t := 31) (by first | rfl | simp [Region.wanted, yielded]) _ rfl [(0, .int .u8 9)] rfl K9.toArray (HB9.out _) ?_) | (refine step_store_at big_key rfl (.tmp 126) (.tmp 124) rfl gp (kk * 36 + 1) rfl K9 HK9.out HO9.out rfl 43 cur HBK.out HCL2.out ?_; intro wz hbz hmz hsz; have HBZ := Lib.hid hbz; have HMZ := Lib.hid hmz; clear hbz hmz hsz) | fail)
                        go_roundw
                        case rel => exact ⟨kk + 1, by omega, by go_num, HIY.out.key hkl HPA.out HBK.out HK9.out HBZ.out HMZ.out, HMY.out.trans HMZ.out (fun i hi => .inl (by subst hi; exact HRG.out))⟩
                        case measure => simp [intOf]; omega
              · obtain rfl : kk = n.ps.length := by omega
                have HKX := Lib.hid (show Kept W wx _ _ g h node (nowT tick tk) has m qs from
                  ⟨HKS.out.ta.kept HMD.out (fun i hi hz => by have := HFS.out i hi; omega), HKS.out.rt.kept HMD.out (fun i hi hz => by have := HFT.out i hi; omega), HKS.out.lk, HKS.out.zv, HKS.out.z0,
                   Bm HKS.out.bel HMD.out (fun i hi => by omega), HKS.out.sW, HKS.out.tW, HKS.out.st⟩)
                have HDR := Lib.hid (HROW.out wx HKX.out.bel)
                go_wp2_with (first | (refine step_load big_deed (by first | rfl | simp [Region.wanted, yielded]) (.tmp 131) rfl gl (ol + k * 72) rfl d.L HDL.out HDR.out ?_) | fail)
                refine (alike_any _ _ g h node (nowT tick tk) has m qs d wx HKX.out.ta HKX.out.rt HKX.out.lk hn1 HDI.out.ok HKX.out.z0).mono ?_
                rintro e wf ⟨rfl, hbf⟩
                have HBF := Lib.hid hbf
                clear hbf
                go_wp2_with fail
                go_roundw
                case rel => exact ⟨k + 1, _, _, (nowT tick tk), has, m, qs, by omega, by omega, by go_num, ⟨HKX.out.ta.below HBF.out, HKX.out.rt.below HBF.out, HKX.out.lk, HKX.out.zv, HKX.out.z0, Bt HKX.out.bel HBF.out, HKX.out.sW, HKX.out.tW, HKX.out.st⟩⟩
                case measure => simp [intOf]; omega
          · by_cases hE : setE d.m node m.ver = 0
            · go_wp2_with fail
              have hgv : g < wv.heap.size := HK.out.ta.2.1 g HK.out.ta.1
              have hhv : h < wv.heap.size := HK.out.rt.lts h HK.out.rt.mem
              have hgW : W.heap.size ≤ g := HK.out.sW g HK.out.ta.1
              have hhW : W.heap.size ≤ h := HK.out.tW h HK.out.rt.mem
              have hgh : g ≠ h := fun e => HK.out.st g HK.out.ta.1 (by rw [e]; exact HK.out.rt.mem)
              have HNM3 := Lib.hid (HDI.out.nm.below HBW3.out (fun i hi => hi))
              have HSL := Lib.hid (show ∀ i, S i → i < wv.heap.size from HK.out.ta.2.1)
              have HTL := Lib.hid (show ∀ i, T i → i < wv.heap.size from HK.out.rt.lts)

              obtain ⟨q1, q2, q3⟩ := setE_zero hE
              have HNB := Lib.hid (show nmB n = true by rw [nmB_eq HNE.out]; exact q1)
              have HNN := Lib.hid (show n.node = node by rw [HNE.out.node]; exact q2)
              have HNV := Lib.hid (show m.ver ≤ n.ver by rw [HNE.out.ver]; exact q3)
              have HEE := Lib.hid hE
              clear q1 q2 q3 hE
              refine wp_region_held_drew (S := fun w' => w'.rangeAt w2.heap.size 0 n.L ∧ w'.rangeAt gl (ol + k * 72 + 1) d.m.L) (by kernel_rfl) (⟨blk_range (HIN.out.box.later (Bd (B0 w3))), range_below (dd_cells (HROW.out w3 HBW3.out) HDI.out.ok).2.1 (Bd (B0 w3)) hgl3⟩) (fun hHeld => ?_)
              refine wpAnyH_take (i := 0) (v := ?_) rfl (by kernel_rfl) (by kernel_rfl) (by kernel_rfl) (fun _ _ _ h => h) (Or.inl ⟨by kernel_rfl, ?_⟩) (by assumption) ?_
              rotate_left 1
              · (intro w hSw; (try dsimp only at hSw); go_simp; try with_reducible rfl)
              try simp only [Act.put, List.getElem_toArray, List.getElem_cons_succ, List.getElem_cons_zero, List.setIfInBounds_toArray, List.set_cons_zero, List.set_cons_succ]
              refine wpAnyH_take (i := 1) (v := ?_) rfl (by kernel_rfl) (by kernel_rfl) (by kernel_rfl) (fun _ _ _ h => h) (Or.inl ⟨by kernel_rfl, ?_⟩) (by assumption) ?_
              rotate_left 1
              · (intro w hSw; refine exec_load big_map (.tmp 10) ?_ w2.heap.size 0 ?_ n.L HNL.out hSw.1 <;> rfl)
              try simp only [Act.put, List.getElem_toArray, List.getElem_cons_succ, List.getElem_cons_zero, List.setIfInBounds_toArray, List.set_cons_zero, List.set_cons_succ]
              refine wpAnyH_take (i := 3) (v := ?_) rfl (by kernel_rfl) (by kernel_rfl) (by kernel_rfl) (fun _ _ _ h => h) (Or.inl ⟨by kernel_rfl, ?_⟩) (by assumption) ?_
              rotate_left 1
              · (intro w hSw; (try dsimp only at hSw); go_simp; try with_reducible rfl)
              try simp only [Act.put, List.getElem_toArray, List.getElem_cons_succ, List.getElem_cons_zero, List.setIfInBounds_toArray, List.set_cons_zero, List.set_cons_succ]
              refine wpAnyH_take (i := 4) (v := ?_) rfl (by kernel_rfl) (by kernel_rfl) (by kernel_rfl) (fun _ _ _ h => h) (Or.inl ⟨by kernel_rfl, ?_⟩) (by assumption) ?_
              rotate_left 1
              · (intro w hSw; (try dsimp only at hSw); go_simp; try with_reducible rfl)
              try simp only [Act.put, List.getElem_toArray, List.getElem_cons_succ, List.getElem_cons_zero, List.setIfInBounds_toArray, List.set_cons_zero, List.set_cons_succ]
              refine wpAnyH_take (i := 5) (v := ?_) rfl (by kernel_rfl) (by kernel_rfl) (by kernel_rfl) (fun _ _ _ h => h) (Or.inl ⟨by kernel_rfl, ?_⟩) (by assumption) ?_
              rotate_left 1
              · (intro w hSw; (try dsimp only at hSw); go_simp; try with_reducible rfl)
              try simp only [Act.put, List.getElem_toArray, List.getElem_cons_succ, List.getElem_cons_zero, List.setIfInBounds_toArray, List.set_cons_zero, List.set_cons_succ]
              refine wpAnyH_take (i := 6) (v := ?_) rfl (by kernel_rfl) (by kernel_rfl) (by kernel_rfl) (fun _ _ _ h => h) (Or.inl ⟨by kernel_rfl, ?_⟩) (by assumption) ?_
              rotate_left 1
              · (intro w hSw; (try dsimp only at hSw); go_simp; try with_reducible rfl)
              try simp only [Act.put, List.getElem_toArray, List.getElem_cons_succ, List.getElem_cons_zero, List.setIfInBounds_toArray, List.set_cons_zero, List.set_cons_succ]
              refine wpAnyH_take (i := 7) (v := ?_) rfl (by kernel_rfl) (by kernel_rfl) (by kernel_rfl) (fun _ _ _ h => h) (Or.inl ⟨by kernel_rfl, ?_⟩) (by assumption) ?_
              rotate_left 1
              · (intro w hSw; (try dsimp only at hSw); go_simp; try with_reducible rfl)
              try simp only [Act.put, List.getElem_toArray, List.getElem_cons_succ, List.getElem_cons_zero, List.setIfInBounds_toArray, List.set_cons_zero, List.set_cons_succ]
              refine wpAnyH_take (i := 8) (v := ?_) rfl (by kernel_rfl) (by kernel_rfl) (by kernel_rfl) (fun _ _ _ h => h) (Or.inl ⟨by kernel_rfl, ?_⟩) (by assumption) ?_
              rotate_left 1
              · (intro w hSw; refine exec_load big_map (.tmp 65) ?_ gl (ol + k * 72 + 1) ?_ d.m.L HML.out hSw.2 <;> rfl)
              try simp only [Act.put, List.getElem_toArray, List.getElem_cons_succ, List.getElem_cons_zero, List.setIfInBounds_toArray, List.set_cons_zero, List.set_cons_succ]
              refine wpAnyH_ready (rs := [2]) (by kernel_rfl) (by simp) ?_
              refine AllReadyH.cons rfl (fun K hK => ?_) AllReadyH.nil
              go_simp
              refine (set_ok _ S n g node tick m.ver qs _ (HNA.out.below (Bd (B0 w3)) (fun i hi => hi.2)) (fun i hi => ⟨hi.2, by have := hi.1; omega⟩) (HT3.out.below (Bd (B0 w3))) hn1 HNB.out HNN.out HNV.out).mono ?_; rintro e v2 ⟨qs2, rfl, ht2, hpx2, hm2⟩; have HT2 := Lib.hid ht2; have HPX2 := Lib.hid hpx2; have HM2 := Lib.hid (show Mod (fun i => i = g) w3 v2 from ⟨hm2.os, hm2.tape, hm2.output, hm2.size, hm2.block⟩); clear ht2 hpx2 hm2; dsimp only
              refine hK.out _ _ (⟨blk_range (HIN.out.box.kept HM2.out (fun e => by omega)), range_mod (dd_cells (HROW.out w3 HBW3.out) HDI.out.ok).2.1 HM2.out (fun e => by omega)⟩) (fun hHeld => ?_)
              clear hK K
              try simp only [Act.put, List.getElem_toArray, List.getElem_cons_succ, List.getElem_cons_zero, List.setIfInBounds_toArray, List.set_cons_zero, List.set_cons_succ]
              refine wpAnyH_ready (rs := [9]) (by kernel_rfl) (by simp) ?_
              refine AllReadyH.cons rfl (fun K hK => ?_) AllReadyH.nil
              go_simp
              refine (rset_ok (fun i => i < W.heap.size) T d.m h node tick has m v2 (HNM3.out.kept HM2.out (fun i hi e => by omega)) (fun i hi => ⟨by have := HM2.out.size; omega, by omega⟩) (HR3.out.kept HM2.out (fun i hi e => by subst e; exact HK.out.st i HK.out.ta.1 hi)) HEE.out HDI.out.z0 HDI.out.z1).mono ?_; rintro e v9 ⟨nr, T2, rfl, hrt, hnr, hm9, hT2⟩; have HRT9 := Lib.hid hrt; have HNR := Lib.hid hnr; have HM9 := Lib.hid hm9; have HT29 := Lib.hid hT2; clear hrt hnr hm9 hT2; dsimp only
              refine hK.out _ _ (⟨blk_range ((HIN.out.box.kept HM2.out (fun e => by omega)).kept HM9.out (fun e => by omega)), range_mod (range_mod (dd_cells (HROW.out w3 HBW3.out) HDI.out.ok).2.1 HM2.out (fun e => by omega)) HM9.out (fun e => by omega)⟩) (fun hHeld => ?_)
              clear hK K
              try simp only [Act.put, List.getElem_toArray, List.getElem_cons_succ, List.getElem_cons_zero, List.setIfInBounds_toArray, List.set_cons_zero, List.set_cons_succ]
              refine wpAnyH_take (i := 10) (v := ?_) rfl (by kernel_rfl) (by kernel_rfl) (by kernel_rfl) (fun _ _ _ h => h) (Or.inl ⟨by kernel_rfl, ?_⟩) (by assumption) ?_
              rotate_left 1
              · (intro w hSw; (try dsimp only at hSw); go_simp; try with_reducible rfl)
              try simp only [Act.put, List.getElem_toArray, List.getElem_cons_succ, List.getElem_cons_zero, List.setIfInBounds_toArray, List.set_cons_zero, List.set_cons_succ]
              refine wpAnyH_take (i := 11) (v := ?_) rfl (by kernel_rfl) (by kernel_rfl) (by kernel_rfl) (fun _ _ _ h => h) (Or.inl ⟨by kernel_rfl, ?_⟩) (by assumption) ?_
              rotate_left 1
              · (intro w hSw; (try dsimp only at hSw); go_simp; try with_reducible rfl)
              try simp only [Act.put, List.getElem_toArray, List.getElem_cons_succ, List.getElem_cons_zero, List.setIfInBounds_toArray, List.set_cons_zero, List.set_cons_succ]
              refine wpAnyH_take (i := 12) (v := ?_) rfl (by kernel_rfl) (by kernel_rfl) (by kernel_rfl) (fun _ _ _ h => h) (Or.inl ⟨by kernel_rfl, ?_⟩) (by assumption) ?_
              rotate_left 1
              · (intro w hSw; refine exec_load big_map (.tmp 10) ?_ w2.heap.size 0 ?_ n.L HNL.out hSw.1 <;> rfl)
              try simp only [Act.put, List.getElem_toArray, List.getElem_cons_succ, List.getElem_cons_zero, List.setIfInBounds_toArray, List.set_cons_zero, List.set_cons_succ]
              refine wpAnyH_take (i := 13) (v := ?_) rfl (by kernel_rfl) (by kernel_rfl) (by kernel_rfl) (fun _ _ _ h => h) (Or.inl ⟨by kernel_rfl, ?_⟩) (by assumption) ?_
              rotate_left 1
              · (intro w hSw; (try dsimp only at hSw); go_simp; try with_reducible rfl)
              try simp only [Act.put, List.getElem_toArray, List.getElem_cons_succ, List.getElem_cons_zero, List.setIfInBounds_toArray, List.set_cons_zero, List.set_cons_succ]
              refine wpAnyH_take (i := 14) (v := ?_) rfl (by kernel_rfl) (by kernel_rfl) (by kernel_rfl) (fun _ _ _ h => h) (Or.inl ⟨by kernel_rfl, ?_⟩) (by assumption) ?_
              rotate_left 1
              · (intro w hSw; (try dsimp only at hSw); go_simp; try with_reducible rfl)
              try simp only [Act.put, List.getElem_toArray, List.getElem_cons_succ, List.getElem_cons_zero, List.setIfInBounds_toArray, List.set_cons_zero, List.set_cons_succ]
              refine wpAnyH_take (i := 15) (v := ?_) rfl (by kernel_rfl) (by kernel_rfl) (by kernel_rfl) (fun _ _ _ h => h) (Or.inl ⟨by kernel_rfl, ?_⟩) (by assumption) ?_
              rotate_left 1
              · (intro w hSw; (try dsimp only at hSw); go_simp; try with_reducible rfl)
              try simp only [Act.put, List.getElem_toArray, List.getElem_cons_succ, List.getElem_cons_zero, List.setIfInBounds_toArray, List.set_cons_zero, List.set_cons_succ]
              refine wpAnyH_take (i := 16) (v := ?_) rfl (by kernel_rfl) (by kernel_rfl) (by kernel_rfl) (fun _ _ _ h => h) (Or.inl ⟨by kernel_rfl, ?_⟩) (by assumption) ?_
              rotate_left 1
              · (intro w hSw; (try dsimp only at hSw); go_simp; try with_reducible rfl)
              try simp only [Act.put, List.getElem_toArray, List.getElem_cons_succ, List.getElem_cons_zero, List.setIfInBounds_toArray, List.set_cons_zero, List.set_cons_succ]
              refine wpAnyH_take (i := 17) (v := ?_) rfl (by kernel_rfl) (by kernel_rfl) (by kernel_rfl) (fun _ _ _ h => h) (Or.inl ⟨by kernel_rfl, ?_⟩) (by assumption) ?_
              rotate_left 1
              · (intro w hSw; refine exec_load big_map (.tmp 74) ?_ gl (ol + k * 72 + 1) ?_ d.m.L HML.out hSw.2 <;> rfl)
              try simp only [Act.put, List.getElem_toArray, List.getElem_cons_succ, List.getElem_cons_zero, List.setIfInBounds_toArray, List.set_cons_zero, List.set_cons_succ]
              refine wpAnyH_ready (rs := [18]) (by kernel_rfl) (by simp) ?_
              refine AllReadyH.cons rfl (fun K hK => ?_) AllReadyH.nil
              go_simp
              refine (same_same _ (fun i => i < W.heap.size) n d.m v9 ((HNA.out.kept HM2.out (fun i hi e => by have := hi.1; omega)).kept HM9.out (fun i hi e => by have := hi.1; omega)) ((HNM3.out.kept HM2.out (fun i hi e => by omega)).kept HM9.out (fun i hi e => by omega)) (fun i hi => by have := hi.2; have := HM2.out.size; have := HM9.out.size; omega) (fun i hi => by have := HM2.out.size; have := HM9.out.size; omega) HNE.out.ver.symm HNE.out.clock.symm HNE.out.node.symm HNE.out.ks.symm HNE.out.ex.symm HNE.out.ps.symm).mono ?_; rintro e v18 ⟨rfl, hb18⟩; have HB18 := Lib.hid hb18; clear hb18; dsimp only
              refine hK.out _ _ (⟨blk_range (((HIN.out.box.kept HM2.out (fun e => by omega)).kept HM9.out (fun e => by omega)).later HB18.out), range_below (range_mod (range_mod (dd_cells (HROW.out w3 HBW3.out) HDI.out.ok).2.1 HM2.out (fun e => by omega)) HM9.out (fun e => by omega)) HB18.out (by have := HM2.out.size; have := HM9.out.size; omega)⟩) (fun hHeld => ?_)
              clear hK K
              try simp only [Act.put, List.getElem_toArray, List.getElem_cons_succ, List.getElem_cons_zero, List.setIfInBounds_toArray, List.set_cons_zero, List.set_cons_succ]
              refine wpAnyH_take (i := 19) (v := ?_) rfl (by kernel_rfl) (by kernel_rfl) (by kernel_rfl) (fun _ _ _ h => h) (Or.inl ⟨by kernel_rfl, ?_⟩) (by assumption) ?_
              rotate_left 1
              · (intro w hSw; (try dsimp only at hSw); go_simp; try with_reducible rfl)
              try simp only [Act.put, List.getElem_toArray, List.getElem_cons_succ, List.getElem_cons_zero, List.setIfInBounds_toArray, List.set_cons_zero, List.set_cons_succ]
              refine wpAnyH_take (i := 20) (v := ?_) rfl (by kernel_rfl) (by kernel_rfl) (by kernel_rfl) (fun _ _ _ h => h) (Or.inl ⟨by kernel_rfl, ?_⟩) (by assumption) ?_
              rotate_left 1
              · (intro w hSw; (try dsimp only at hSw); go_simp; try with_reducible rfl)
              try simp only [Act.put, List.getElem_toArray, List.getElem_cons_succ, List.getElem_cons_zero, List.setIfInBounds_toArray, List.set_cons_zero, List.set_cons_succ]
              refine wpAnyH_done (by kernel_rfl) ?_ _
              have hs2 : w3.heap.size ≤ v2.heap.size := HM2.out.size
              have hs9 : v2.heap.size ≤ v9.heap.size := HM9.out.size
              have HKS := Lib.hid (show Kept W v18 _ T2 g h node tick true nr qs2 from
                ⟨by rw [HNR.out.ver, ← HNE.out.ver]; exact (HT2.out.kept HM9.out (fun i hi e => by subst e; rcases hi with e | ⟨h1, h2⟩; exact hgh e.symm; have h3 : w3.heap.size ≤ i := h1; omega)).below HB18.out,
                 HRT9.out.below HB18.out, ⟨HPX2.out.trans (HNE.out.ps.trans HNR.out.ps.symm), .inl (nm_ok (by rw [nmB_eq HNR.out, ← nmB_eq HNE.out]; exact HNB.out))⟩, (fun e => by cases e),
                 by rw [px_len HNR.out.ps]; exact HDI.out.z0, Bt (Bm (Bm HBW3.out HM2.out (fun i hi => by omega)) HM9.out (fun i hi => by omega)) HB18.out,
                 fun i hi => by rcases hi with e | ⟨h1, h2⟩; omega; have h3 : w3.heap.size ≤ i := h1; omega,
                 fun i hi => by rcases HT29.out i hi with e | h1; omega; omega,
                 fun i hi hi2 => by
                   rcases HT29.out i hi2 with e | h1
                   · rcases hi with e2 | ⟨h3, h4⟩
                     · exact hgh (e2.symm.trans e)
                     · have h5 : w3.heap.size ≤ i := h3
                       omega
                   · rcases hi with e2 | ⟨h3, h4⟩
                     · omega
                     · omega⟩)
              have HFS := Lib.hid (show ∀ i, (fun i => i = g ∨ ((w3.drew).heap.size ≤ i ∧ i < v2.heap.size)) i → i < wv.heap.size ∨ w3.heap.size ≤ i from fun i hi => by rcases hi with e | ⟨h1, h2⟩; exact .inl (by omega); exact .inr h1)
              have HFT := Lib.hid (show ∀ i, T2 i → i < wv.heap.size ∨ w3.heap.size ≤ i from fun i hi => by rcases HT29.out i hi with e | h1; exact .inl (by omega); exact .inr (by omega))
              have HINS := Lib.hid ((HIN.out.kept HM2.out (fun i hi => .inl (by omega))).kept HM9.out (fun i hi => .inl (by omega)))
              have HINT := Lib.hid (HINS.out.kept (Mod.of_below (S := fun _ => False) HB18.out) (fun i hi => hi.elim))
              clear hHeld
              have hw12 : w2.heap.size < w3.heap.size := by omega
              have HNQ := Lib.hid (show n.PA = n.PA from rfl)
              go_wp2_with fail
              go_loopw [11] (fun i wr => ∃ kk : Nat, kk ≤ n.ps.length ∧ i = .int .i64 kk ∧ InAt wr wv.heap.size w3.heap.size w2.heap.size n ∧ Mod (fun i => wv.heap.size ≤ i ∧ i < w3.heap.size) v18 wr) (fun i _ => n.ps.length - (intOf i).toNat)
              case atStart => exact ⟨0, Nat.zero_le _, rfl, HINT.out, Mod.refl _ _⟩
              case round =>
                obtain ⟨kk, hkk, rfl, hia, hmd⟩ := hrel
                obtain ⟨wx, rfl⟩ : ∃ wx, wx = wr := ⟨_, rfl⟩
                have HIA := Lib.hid hia
                have HMD := Lib.hid hmd
                have x36 := (nm_cells (blk_range HIA.out.box) HNK.out).2.2.2.2.2
                rw [Nat.zero_add] at x36
                have lb := HIA.out.box.lt
                have hnc := HNA.out.rp.cap
                have hn1' := hnc.2.1
                have hn2' := hnc.2.2
                unfold maxLen at hn2'
                clear hia hmd hnc
                by_cases hkl : kk < n.ps.length
                · have hkl' : (kk : Int) < (n.ps.length : Int) := by omega
                  have hkk0 : (0 : Int) ≤ (kk : Int) := by omega
                  have hrow := HIA.out.row
                  rcases hrow with e | ⟨gp, cur, hpa, hgp1, hgp2, hblk, hcl, hcur⟩
                  · omega
                  · have HPA := Lib.hid hpa
                    have HKQ := Lib.hid (show ∀ q ∈ n.ps, q.ks.length = 32 from fun q hq => (HNA.out.each q hq).k32)
                    obtain ⟨q, hq⟩ : ∃ q, q = n.ps[kk] := ⟨_, rfl⟩
                    have HQM := Lib.hid (show q ∈ n.ps by rw [hq]; exact List.getElem_mem hkl)
                    have HQQ := Lib.hid hq
                    have hqi := (HNA.out.each q HQM.out).ri.cap
                    have hqi1 := hqi.2.1
                    have hqi2 := hqi.2.2
                    unfold maxLen at hqi2
                    rw [hpa] at x36
                    clear hq hblk hcur hqi hgp1 hgp2 hcl
                    go_wp2_with fail
                    go_loopw [12] (fun i wr => ∃ j : Nat, j ≤ q.ins.length ∧ i = .int .i64 j ∧ InAt wr wv.heap.size w3.heap.size w2.heap.size n ∧ Mod (fun i => wv.heap.size ≤ i ∧ i < w3.heap.size) v18 wr) (fun i _ => q.ins.length - (intOf i).toNat)
                    case atStart => exact ⟨0, Nat.zero_le _, rfl, HIA.out, HMD.out⟩
                    case round =>
                      obtain ⟨j, hj, rfl, hia, hmd⟩ := hrel
                      obtain ⟨wy, rfl⟩ : ∃ wy, wy = wr := ⟨_, rfl⟩
                      have HIY := Lib.hid hia
                      have HMY := Lib.hid hmd
                      have y36 := (nm_cells (blk_range HIY.out.box) HNK.out).2.2.2.2.2
                      rw [Nat.zero_add, HPA.out] at y36
                      have lby := HIY.out.box.lt
                      have hrow := HIY.out.row
                      rcases hrow with e | ⟨g2, cur, hpa2, hgp1, hgp2, hblk, hcl, hcur⟩
                      · omega
                      · rw [HPA.out] at hpa2
                        injection hpa2 with hpa2
                        injection hpa2 with hpa2 _
                        subst hpa2
                        have HBK := Lib.hid hblk
                        have HCL := Lib.hid hcl
                        have p34 : wy.cell? ⟨gp, kk * 36 + 34, none⟩ = some (.slice q.IA q.ins.length q.ic) := by
                          rw [hblk.cell, List.getElem?_toArray, hcur kk hkl, HQQ.out]
                        have lgp := hblk.lt
                        clear hia hmd hblk hcur hcl
                        by_cases hjl : j < q.ins.length
                        · have hjl' : (j : Int) < (q.ins.length : Int) := by omega
                          have hj0 : (0 : Int) ≤ (j : Int) := by omega
                          rcases (HIY.out.ins q HQM.out).2 with e | ⟨gi, cs, hia2, hgi1, hgi2, hbi, hci⟩
                          · omega
                          · have HBI := Lib.hid hbi
                            have s0 : wy.cell? ⟨gi, j * 2, none⟩ = some (cs[j * 2]'(by omega)) := by rw [hbi.cell, List.getElem?_toArray, List.getElem?_eq_getElem (by omega)]
                            have s1 : wy.cell? ⟨gi, j * 2 + 1, none⟩ = some (cs[j * 2 + 1]'(by omega)) := by rw [hbi.cell, List.getElem?_toArray, List.getElem?_eq_getElem (by omega)]
                            have f0 := hbi.frozen (j * 2)
                            have f1 := hbi.frozen (j * 2 + 1)
                            have lgi := hbi.lt
                            rw [hia2] at p34
                            have HG1 := Lib.hid (And.intro hgi1 hgi2)
                            clear hbi hgi1 hgi2 hia2
                            go_wp2_with fail
                            go_roundw
                            case rel => exact ⟨j + 1, by omega, by go_num, HIY.out.span HBI.out (j * 2) _ _, (HMY.out.setCell (p := ⟨gi, j * 2, none⟩) (.inl HG1.out) _).setCell (p := ⟨gi, j * 2 + 1, none⟩) (.inl HG1.out) _⟩
                            case measure => simp [intOf]; omega
                        · obtain rfl : j = q.ins.length := by omega
                          have HRG := Lib.hid (And.intro hgp1 hgp2)
                          have HCL2 := Lib.hid (show kk * 36 + 1 + 32 ≤ cur.length by have := HCL.out; omega)
                          clear hgp1 hgp2
                          go_wp2_with (first | (refine step_build (t := 31) (by first | rfl | simp [Region.wanted, yielded]) _ rfl [(0, .int .u8 9)] rfl K9.toArray (HB9.out _) ?_) | (refine step_store_at big_key rfl (.tmp 126) (.tmp 124) rfl gp (kk * 36 + 1) rfl K9 HK9.out HO9.out rfl 43 cur HBK.out HCL2.out ?_; intro wz hbz hmz hsz; have HBZ := Lib.hid hbz; have HMZ := Lib.hid hmz; clear hbz hmz hsz) | fail)
                          go_roundw
                          case rel => exact ⟨kk + 1, by omega, by go_num, HIY.out.key hkl HPA.out HBK.out HK9.out HBZ.out HMZ.out, HMY.out.trans HMZ.out (fun i hi => .inl (by subst hi; exact HRG.out))⟩
                          case measure => simp [intOf]; omega
                · obtain rfl : kk = n.ps.length := by omega
                  have HKX := Lib.hid (show Kept W wx _ _ g h node tick true nr qs2 from
                    ⟨HKS.out.ta.kept HMD.out (fun i hi hz => by have := HFS.out i hi; omega), HKS.out.rt.kept HMD.out (fun i hi hz => by have := HFT.out i hi; omega), HKS.out.lk, HKS.out.zv, HKS.out.z0,
                     Bm HKS.out.bel HMD.out (fun i hi => by omega), HKS.out.sW, HKS.out.tW, HKS.out.st⟩)
                  have HDR := Lib.hid (HROW.out wx HKX.out.bel)
                  go_wp2_with (first | (refine step_load big_deed (by first | rfl | simp [Region.wanted, yielded]) (.tmp 131) rfl gl (ol + k * 72) rfl d.L HDL.out HDR.out ?_) | fail)
                  refine (alike_any _ _ g h node tick true nr qs2 d wx HKX.out.ta HKX.out.rt HKX.out.lk hn1 HDI.out.ok HKX.out.z0).mono ?_
                  rintro e wf ⟨rfl, hbf⟩
                  have HBF := Lib.hid hbf
                  clear hbf
                  go_wp2_with fail
                  go_roundw
                  case rel => exact ⟨k + 1, _, _, tick, true, nr, qs2, by omega, by omega, by go_num, ⟨HKX.out.ta.below HBF.out, HKX.out.rt.below HBF.out, HKX.out.lk, HKX.out.zv, HKX.out.z0, Bt HKX.out.bel HBF.out, HKX.out.sW, HKX.out.tW, HKX.out.st⟩⟩
                  case measure => simp [intOf]; omega
            · go_wp2_with fail
              have hgv : g < wv.heap.size := HK.out.ta.2.1 g HK.out.ta.1
              have hhv : h < wv.heap.size := HK.out.rt.lts h HK.out.rt.mem
              have hgW : W.heap.size ≤ g := HK.out.sW g HK.out.ta.1
              have hhW : W.heap.size ≤ h := HK.out.tW h HK.out.rt.mem
              have hgh : g ≠ h := fun e => HK.out.st g HK.out.ta.1 (by rw [e]; exact HK.out.rt.mem)
              have HNM3 := Lib.hid (HDI.out.nm.below HBW3.out (fun i hi => hi))
              have HSL := Lib.hid (show ∀ i, S i → i < wv.heap.size from HK.out.ta.2.1)
              have HTL := Lib.hid (show ∀ i, T i → i < wv.heap.size from HK.out.rt.lts)

              obtain ⟨E, hEq⟩ : ∃ E, E = setE d.m node m.ver := ⟨_, rfl⟩
              have HEQ := Lib.hid hEq
              have HEN := Lib.hid (show setE n node m.ver = E by rw [hEq]; exact setE_eq HNE.out node m.ver)
              have HE0 := Lib.hid (show E ≠ 0 by rw [hEq]; exact hE)
              have hEE : (E != E) = false := by simp
              clear hEq hE
              refine wp_region_held_drew (S := fun w' => w'.rangeAt w2.heap.size 0 n.L ∧ w'.rangeAt gl (ol + k * 72 + 1) d.m.L) (by kernel_rfl) (⟨blk_range (HIN.out.box.later (Bd (B0 w3))), range_below (dd_cells (HROW.out w3 HBW3.out) HDI.out.ok).2.1 (Bd (B0 w3)) hgl3⟩) (fun hHeld => ?_)
              refine wpAnyH_take (i := 0) (v := ?_) rfl (by kernel_rfl) (by kernel_rfl) (by kernel_rfl) (fun _ _ _ h => h) (Or.inl ⟨by kernel_rfl, ?_⟩) (by assumption) ?_
              rotate_left 1
              · (intro w hSw; (try dsimp only at hSw); go_simp; try with_reducible rfl)
              try simp only [Act.put, List.getElem_toArray, List.getElem_cons_succ, List.getElem_cons_zero, List.setIfInBounds_toArray, List.set_cons_zero, List.set_cons_succ]
              refine wpAnyH_take (i := 1) (v := ?_) rfl (by kernel_rfl) (by kernel_rfl) (by kernel_rfl) (fun _ _ _ h => h) (Or.inl ⟨by kernel_rfl, ?_⟩) (by assumption) ?_
              rotate_left 1
              · (intro w hSw; refine exec_load big_map (.tmp 10) ?_ w2.heap.size 0 ?_ n.L HNL.out hSw.1 <;> rfl)
              try simp only [Act.put, List.getElem_toArray, List.getElem_cons_succ, List.getElem_cons_zero, List.setIfInBounds_toArray, List.set_cons_zero, List.set_cons_succ]
              refine wpAnyH_take (i := 3) (v := ?_) rfl (by kernel_rfl) (by kernel_rfl) (by kernel_rfl) (fun _ _ _ h => h) (Or.inl ⟨by kernel_rfl, ?_⟩) (by assumption) ?_
              rotate_left 1
              · (intro w hSw; (try dsimp only at hSw); go_simp; try with_reducible rfl)
              try simp only [Act.put, List.getElem_toArray, List.getElem_cons_succ, List.getElem_cons_zero, List.setIfInBounds_toArray, List.set_cons_zero, List.set_cons_succ]
              refine wpAnyH_take (i := 4) (v := ?_) rfl (by kernel_rfl) (by kernel_rfl) (by kernel_rfl) (fun _ _ _ h => h) (Or.inl ⟨by kernel_rfl, ?_⟩) (by assumption) ?_
              rotate_left 1
              · (intro w hSw; (try dsimp only at hSw); go_simp; try with_reducible rfl)
              try simp only [Act.put, List.getElem_toArray, List.getElem_cons_succ, List.getElem_cons_zero, List.setIfInBounds_toArray, List.set_cons_zero, List.set_cons_succ]
              refine wpAnyH_take (i := 5) (v := ?_) rfl (by kernel_rfl) (by kernel_rfl) (by kernel_rfl) (fun _ _ _ h => h) (Or.inl ⟨by kernel_rfl, ?_⟩) (by assumption) ?_
              rotate_left 1
              · (intro w hSw; (try dsimp only at hSw); go_simp; try with_reducible rfl)
              try simp only [Act.put, List.getElem_toArray, List.getElem_cons_succ, List.getElem_cons_zero, List.setIfInBounds_toArray, List.set_cons_zero, List.set_cons_succ]
              refine wpAnyH_take (i := 6) (v := ?_) rfl (by kernel_rfl) (by kernel_rfl) (by kernel_rfl) (fun _ _ _ h => h) (Or.inl ⟨by kernel_rfl, ?_⟩) (by assumption) ?_
              rotate_left 1
              · (intro w hSw; (try dsimp only at hSw); go_simp; try with_reducible rfl)
              try simp only [Act.put, List.getElem_toArray, List.getElem_cons_succ, List.getElem_cons_zero, List.setIfInBounds_toArray, List.set_cons_zero, List.set_cons_succ]
              refine wpAnyH_take (i := 7) (v := ?_) rfl (by kernel_rfl) (by kernel_rfl) (by kernel_rfl) (fun _ _ _ h => h) (Or.inl ⟨by kernel_rfl, ?_⟩) (by assumption) ?_
              rotate_left 1
              · (intro w hSw; (try dsimp only at hSw); go_simp; try with_reducible rfl)
              try simp only [Act.put, List.getElem_toArray, List.getElem_cons_succ, List.getElem_cons_zero, List.setIfInBounds_toArray, List.set_cons_zero, List.set_cons_succ]
              refine wpAnyH_take (i := 8) (v := ?_) rfl (by kernel_rfl) (by kernel_rfl) (by kernel_rfl) (fun _ _ _ h => h) (Or.inl ⟨by kernel_rfl, ?_⟩) (by assumption) ?_
              rotate_left 1
              · (intro w hSw; refine exec_load big_map (.tmp 65) ?_ gl (ol + k * 72 + 1) ?_ d.m.L HML.out hSw.2 <;> rfl)
              try simp only [Act.put, List.getElem_toArray, List.getElem_cons_succ, List.getElem_cons_zero, List.setIfInBounds_toArray, List.set_cons_zero, List.set_cons_succ]
              refine wpAnyH_ready (rs := [2]) (by kernel_rfl) (by simp) ?_
              refine AllReadyH.cons rfl (fun K hK => ?_) AllReadyH.nil
              go_simp
              refine (set_no _ S n g node tick m.ver qs _ (HNA.out.below (Bd (B0 w3)) (fun i hi => hi.2)) (fun i hi => hi.2) (HT3.out.below (Bd (B0 w3))) hn1 (by rw [HEN.out]; exact HE0.out)).mono ?_; rw [HEN.out]; rintro e v2 ⟨rfl, hm2⟩; have HM2 := Lib.hid (show Below w3.heap.size w3 v2 from ⟨hm2.os, hm2.tape, hm2.output, hm2.size, hm2.block⟩); clear hm2; dsimp only
              refine hK.out _ _ (⟨blk_range (HIN.out.box.later HM2.out), range_below (dd_cells (HROW.out w3 HBW3.out) HDI.out.ok).2.1 HM2.out hgl3⟩) (fun hHeld => ?_)
              clear hK K
              try simp only [Act.put, List.getElem_toArray, List.getElem_cons_succ, List.getElem_cons_zero, List.setIfInBounds_toArray, List.set_cons_zero, List.set_cons_succ]
              refine wpAnyH_ready (rs := [9]) (by kernel_rfl) (by simp) ?_
              refine AllReadyH.cons rfl (fun K hK => ?_) AllReadyH.nil
              go_simp
              refine (rset_no (fun i => i < W.heap.size) T d.m h node tick has m v2 (HNM3.out.below HM2.out (fun i hi => by omega)) (fun i hi => by have := HM2.out.size; omega) (HR3.out.below HM2.out) HK.out.zv (by rw [← HEQ.out]; exact HE0.out)).mono ?_; rw [← HEQ.out]; rintro e v9 ⟨rfl, hm9⟩; have HM9 := Lib.hid hm9; clear hm9; dsimp only
              refine hK.out _ _ (⟨blk_range ((HIN.out.box.later HM2.out).later HM9.out), range_below (range_below (dd_cells (HROW.out w3 HBW3.out) HDI.out.ok).2.1 HM2.out hgl3) HM9.out (by have := HM2.out.size; omega)⟩) (fun hHeld => ?_)
              clear hK K
              try simp only [Act.put, List.getElem_toArray, List.getElem_cons_succ, List.getElem_cons_zero, List.setIfInBounds_toArray, List.set_cons_zero, List.set_cons_succ]
              refine wpAnyH_take (i := 10) (v := ?_) rfl (by kernel_rfl) (by kernel_rfl) (by kernel_rfl) (fun _ _ _ h => h) (Or.inl ⟨by kernel_rfl, ?_⟩) (by assumption) ?_
              rotate_left 1
              · (intro w hSw; (try dsimp only at hSw); go_simp; try with_reducible rfl)
              try simp only [Act.put, List.getElem_toArray, List.getElem_cons_succ, List.getElem_cons_zero, List.setIfInBounds_toArray, List.set_cons_zero, List.set_cons_succ]
              refine wpAnyH_take (i := 11) (v := ?_) rfl (by kernel_rfl) (by kernel_rfl) (by kernel_rfl) (fun _ _ _ h => h) (Or.inl ⟨by kernel_rfl, ?_⟩) (by assumption) ?_
              rotate_left 1
              · (intro w hSw; (try dsimp only at hSw); go_simp; try with_reducible rfl)
              try simp only [Act.put, List.getElem_toArray, List.getElem_cons_succ, List.getElem_cons_zero, List.setIfInBounds_toArray, List.set_cons_zero, List.set_cons_succ]
              refine wpAnyH_take (i := 12) (v := ?_) rfl (by kernel_rfl) (by kernel_rfl) (by kernel_rfl) (fun _ _ _ h => h) (Or.inl ⟨by kernel_rfl, ?_⟩) (by assumption) ?_
              rotate_left 1
              · (intro w hSw; refine exec_load big_map (.tmp 10) ?_ w2.heap.size 0 ?_ n.L HNL.out hSw.1 <;> rfl)
              try simp only [Act.put, List.getElem_toArray, List.getElem_cons_succ, List.getElem_cons_zero, List.setIfInBounds_toArray, List.set_cons_zero, List.set_cons_succ]
              refine wpAnyH_take (i := 13) (v := ?_) rfl (by kernel_rfl) (by kernel_rfl) (by kernel_rfl) (fun _ _ _ h => h) (Or.inl ⟨by kernel_rfl, ?_⟩) (by assumption) ?_
              rotate_left 1
              · (intro w hSw; (try dsimp only at hSw); go_simp; try with_reducible rfl)
              try simp only [Act.put, List.getElem_toArray, List.getElem_cons_succ, List.getElem_cons_zero, List.setIfInBounds_toArray, List.set_cons_zero, List.set_cons_succ]
              refine wpAnyH_take (i := 14) (v := ?_) rfl (by kernel_rfl) (by kernel_rfl) (by kernel_rfl) (fun _ _ _ h => h) (Or.inl ⟨by kernel_rfl, ?_⟩) (by assumption) ?_
              rotate_left 1
              · (intro w hSw; (try dsimp only at hSw); go_simp; try with_reducible rfl)
              try simp only [Act.put, List.getElem_toArray, List.getElem_cons_succ, List.getElem_cons_zero, List.setIfInBounds_toArray, List.set_cons_zero, List.set_cons_succ]
              refine wpAnyH_take (i := 15) (v := ?_) rfl (by kernel_rfl) (by kernel_rfl) (by kernel_rfl) (fun _ _ _ h => h) (Or.inl ⟨by kernel_rfl, ?_⟩) (by assumption) ?_
              rotate_left 1
              · (intro w hSw; (try dsimp only at hSw); go_simp; try with_reducible rfl)
              try simp only [Act.put, List.getElem_toArray, List.getElem_cons_succ, List.getElem_cons_zero, List.setIfInBounds_toArray, List.set_cons_zero, List.set_cons_succ]
              refine wpAnyH_take (i := 16) (v := ?_) rfl (by kernel_rfl) (by kernel_rfl) (by kernel_rfl) (fun _ _ _ h => h) (Or.inl ⟨by kernel_rfl, ?_⟩) (by assumption) ?_
              rotate_left 1
              · (intro w hSw; (try dsimp only at hSw); go_simp; try with_reducible rfl)
              try simp only [Act.put, List.getElem_toArray, List.getElem_cons_succ, List.getElem_cons_zero, List.setIfInBounds_toArray, List.set_cons_zero, List.set_cons_succ]
              refine wpAnyH_take (i := 17) (v := ?_) rfl (by kernel_rfl) (by kernel_rfl) (by kernel_rfl) (fun _ _ _ h => h) (Or.inl ⟨by kernel_rfl, ?_⟩) (by assumption) ?_
              rotate_left 1
              · (intro w hSw; refine exec_load big_map (.tmp 74) ?_ gl (ol + k * 72 + 1) ?_ d.m.L HML.out hSw.2 <;> rfl)
              try simp only [Act.put, List.getElem_toArray, List.getElem_cons_succ, List.getElem_cons_zero, List.setIfInBounds_toArray, List.set_cons_zero, List.set_cons_succ]
              refine wpAnyH_ready (rs := [18]) (by kernel_rfl) (by simp) ?_
              refine AllReadyH.cons rfl (fun K hK => ?_) AllReadyH.nil
              go_simp
              refine (same_same _ (fun i => i < W.heap.size) n d.m v9 ((HNA.out.below HM2.out (fun i hi => hi.2)).below HM9.out (fun i hi => by have := hi.2; have := HM2.out.size; omega)) ((HNM3.out.below HM2.out (fun i hi => by omega)).below HM9.out (fun i hi => by have := HM2.out.size; omega)) (fun i hi => by have := hi.2; have := HM2.out.size; have := HM9.out.size; omega) (fun i hi => by have := HM2.out.size; have := HM9.out.size; omega) HNE.out.ver.symm HNE.out.clock.symm HNE.out.node.symm HNE.out.ks.symm HNE.out.ex.symm HNE.out.ps.symm).mono ?_; rintro e v18 ⟨rfl, hb18⟩; have HB18 := Lib.hid hb18; clear hb18; dsimp only
              refine hK.out _ _ (⟨blk_range (((HIN.out.box.later HM2.out).later HM9.out).later HB18.out), range_below (range_below (range_below (dd_cells (HROW.out w3 HBW3.out) HDI.out.ok).2.1 HM2.out hgl3) HM9.out (by have := HM2.out.size; omega)) HB18.out (by have := HM2.out.size; have := HM9.out.size; omega)⟩) (fun hHeld => ?_)
              clear hK K
              try simp only [Act.put, List.getElem_toArray, List.getElem_cons_succ, List.getElem_cons_zero, List.setIfInBounds_toArray, List.set_cons_zero, List.set_cons_succ]
              refine wpAnyH_take (i := 19) (v := ?_) rfl (by kernel_rfl) (by kernel_rfl) (by kernel_rfl) (fun _ _ _ h => h) (Or.inl ⟨by kernel_rfl, ?_⟩) (by assumption) ?_
              rotate_left 1
              · (intro w hSw; (try dsimp only at hSw); go_simp; try with_reducible rfl)
              try simp only [Act.put, List.getElem_toArray, List.getElem_cons_succ, List.getElem_cons_zero, List.setIfInBounds_toArray, List.set_cons_zero, List.set_cons_succ]
              refine wpAnyH_take (i := 20) (v := ?_) rfl (by kernel_rfl) (by kernel_rfl) (by kernel_rfl) (fun _ _ _ h => h) (Or.inl ⟨by kernel_rfl, ?_⟩) (by assumption) ?_
              rotate_left 1
              · (intro w hSw; (try dsimp only at hSw); go_simp; try with_reducible rfl)
              try simp only [Act.put, List.getElem_toArray, List.getElem_cons_succ, List.getElem_cons_zero, List.setIfInBounds_toArray, List.set_cons_zero, List.set_cons_succ]
              refine wpAnyH_done (by kernel_rfl) ?_ _
              have HBA := Lib.hid (show Below w3.heap.size w3 v18 from Bt (Bt HM2.out HM9.out) HB18.out)
              have HKS := Lib.hid (show Kept W v18 S T g h node tick has m qs from
                ⟨HT3.out.below HBA.out, HR3.out.below HBA.out, HK.out.lk, HK.out.zv, HK.out.z0, Bt HBW3.out HBA.out, HK.out.sW, HK.out.tW, HK.out.st⟩)
              have HFS := Lib.hid (show ∀ i, S i → i < wv.heap.size ∨ w3.heap.size ≤ i from fun i hi => .inl (HSL.out i hi))
              have HFT := Lib.hid (show ∀ i, T i → i < wv.heap.size ∨ w3.heap.size ≤ i from fun i hi => .inl (HTL.out i hi))
              have HINT := Lib.hid (HIN.out.kept (Mod.of_below (S := fun _ => False) HBA.out) (fun i hi => hi.elim))
              clear hHeld
              have hw12 : w2.heap.size < w3.heap.size := by omega
              have HNQ := Lib.hid (show n.PA = n.PA from rfl)
              go_wp2_with fail
              go_loopw [11] (fun i wr => ∃ kk : Nat, kk ≤ n.ps.length ∧ i = .int .i64 kk ∧ InAt wr wv.heap.size w3.heap.size w2.heap.size n ∧ Mod (fun i => wv.heap.size ≤ i ∧ i < w3.heap.size) v18 wr) (fun i _ => n.ps.length - (intOf i).toNat)
              case atStart => exact ⟨0, Nat.zero_le _, rfl, HINT.out, Mod.refl _ _⟩
              case round =>
                obtain ⟨kk, hkk, rfl, hia, hmd⟩ := hrel
                obtain ⟨wx, rfl⟩ : ∃ wx, wx = wr := ⟨_, rfl⟩
                have HIA := Lib.hid hia
                have HMD := Lib.hid hmd
                have x36 := (nm_cells (blk_range HIA.out.box) HNK.out).2.2.2.2.2
                rw [Nat.zero_add] at x36
                have lb := HIA.out.box.lt
                have hnc := HNA.out.rp.cap
                have hn1' := hnc.2.1
                have hn2' := hnc.2.2
                unfold maxLen at hn2'
                clear hia hmd hnc
                by_cases hkl : kk < n.ps.length
                · have hkl' : (kk : Int) < (n.ps.length : Int) := by omega
                  have hkk0 : (0 : Int) ≤ (kk : Int) := by omega
                  have hrow := HIA.out.row
                  rcases hrow with e | ⟨gp, cur, hpa, hgp1, hgp2, hblk, hcl, hcur⟩
                  · omega
                  · have HPA := Lib.hid hpa
                    have HKQ := Lib.hid (show ∀ q ∈ n.ps, q.ks.length = 32 from fun q hq => (HNA.out.each q hq).k32)
                    obtain ⟨q, hq⟩ : ∃ q, q = n.ps[kk] := ⟨_, rfl⟩
                    have HQM := Lib.hid (show q ∈ n.ps by rw [hq]; exact List.getElem_mem hkl)
                    have HQQ := Lib.hid hq
                    have hqi := (HNA.out.each q HQM.out).ri.cap
                    have hqi1 := hqi.2.1
                    have hqi2 := hqi.2.2
                    unfold maxLen at hqi2
                    rw [hpa] at x36
                    clear hq hblk hcur hqi hgp1 hgp2 hcl
                    go_wp2_with fail
                    go_loopw [12] (fun i wr => ∃ j : Nat, j ≤ q.ins.length ∧ i = .int .i64 j ∧ InAt wr wv.heap.size w3.heap.size w2.heap.size n ∧ Mod (fun i => wv.heap.size ≤ i ∧ i < w3.heap.size) v18 wr) (fun i _ => q.ins.length - (intOf i).toNat)
                    case atStart => exact ⟨0, Nat.zero_le _, rfl, HIA.out, HMD.out⟩
                    case round =>
                      obtain ⟨j, hj, rfl, hia, hmd⟩ := hrel
                      obtain ⟨wy, rfl⟩ : ∃ wy, wy = wr := ⟨_, rfl⟩
                      have HIY := Lib.hid hia
                      have HMY := Lib.hid hmd
                      have y36 := (nm_cells (blk_range HIY.out.box) HNK.out).2.2.2.2.2
                      rw [Nat.zero_add, HPA.out] at y36
                      have lby := HIY.out.box.lt
                      have hrow := HIY.out.row
                      rcases hrow with e | ⟨g2, cur, hpa2, hgp1, hgp2, hblk, hcl, hcur⟩
                      · omega
                      · rw [HPA.out] at hpa2
                        injection hpa2 with hpa2
                        injection hpa2 with hpa2 _
                        subst hpa2
                        have HBK := Lib.hid hblk
                        have HCL := Lib.hid hcl
                        have p34 : wy.cell? ⟨gp, kk * 36 + 34, none⟩ = some (.slice q.IA q.ins.length q.ic) := by
                          rw [hblk.cell, List.getElem?_toArray, hcur kk hkl, HQQ.out]
                        have lgp := hblk.lt
                        clear hia hmd hblk hcur hcl
                        by_cases hjl : j < q.ins.length
                        · have hjl' : (j : Int) < (q.ins.length : Int) := by omega
                          have hj0 : (0 : Int) ≤ (j : Int) := by omega
                          rcases (HIY.out.ins q HQM.out).2 with e | ⟨gi, cs, hia2, hgi1, hgi2, hbi, hci⟩
                          · omega
                          · have HBI := Lib.hid hbi
                            have s0 : wy.cell? ⟨gi, j * 2, none⟩ = some (cs[j * 2]'(by omega)) := by rw [hbi.cell, List.getElem?_toArray, List.getElem?_eq_getElem (by omega)]
                            have s1 : wy.cell? ⟨gi, j * 2 + 1, none⟩ = some (cs[j * 2 + 1]'(by omega)) := by rw [hbi.cell, List.getElem?_toArray, List.getElem?_eq_getElem (by omega)]
                            have f0 := hbi.frozen (j * 2)
                            have f1 := hbi.frozen (j * 2 + 1)
                            have lgi := hbi.lt
                            rw [hia2] at p34
                            have HG1 := Lib.hid (And.intro hgi1 hgi2)
                            clear hbi hgi1 hgi2 hia2
                            go_wp2_with fail
                            go_roundw
                            case rel => exact ⟨j + 1, by omega, by go_num, HIY.out.span HBI.out (j * 2) _ _, (HMY.out.setCell (p := ⟨gi, j * 2, none⟩) (.inl HG1.out) _).setCell (p := ⟨gi, j * 2 + 1, none⟩) (.inl HG1.out) _⟩
                            case measure => simp [intOf]; omega
                        · obtain rfl : j = q.ins.length := by omega
                          have HRG := Lib.hid (And.intro hgp1 hgp2)
                          have HCL2 := Lib.hid (show kk * 36 + 1 + 32 ≤ cur.length by have := HCL.out; omega)
                          clear hgp1 hgp2
                          go_wp2_with (first | (refine step_build (t := 31) (by first | rfl | simp [Region.wanted, yielded]) _ rfl [(0, .int .u8 9)] rfl K9.toArray (HB9.out _) ?_) | (refine step_store_at big_key rfl (.tmp 126) (.tmp 124) rfl gp (kk * 36 + 1) rfl K9 HK9.out HO9.out rfl 43 cur HBK.out HCL2.out ?_; intro wz hbz hmz hsz; have HBZ := Lib.hid hbz; have HMZ := Lib.hid hmz; clear hbz hmz hsz) | fail)
                          go_roundw
                          case rel => exact ⟨kk + 1, by omega, by go_num, HIY.out.key hkl HPA.out HBK.out HK9.out HBZ.out HMZ.out, HMY.out.trans HMZ.out (fun i hi => .inl (by subst hi; exact HRG.out))⟩
                          case measure => simp [intOf]; omega
                · obtain rfl : kk = n.ps.length := by omega
                  have HKX := Lib.hid (show Kept W wx _ _ g h node tick has m qs from
                    ⟨HKS.out.ta.kept HMD.out (fun i hi hz => by have := HFS.out i hi; omega), HKS.out.rt.kept HMD.out (fun i hi hz => by have := HFT.out i hi; omega), HKS.out.lk, HKS.out.zv, HKS.out.z0,
                     Bm HKS.out.bel HMD.out (fun i hi => by omega), HKS.out.sW, HKS.out.tW, HKS.out.st⟩)
                  have HDR := Lib.hid (HROW.out wx HKX.out.bel)
                  go_wp2_with (first | (refine step_load big_deed (by first | rfl | simp [Region.wanted, yielded]) (.tmp 131) rfl gl (ol + k * 72) rfl d.L HDL.out HDR.out ?_) | fail)
                  refine (alike_any _ _ g h node tick has m qs d wx HKX.out.ta HKX.out.rt HKX.out.lk hn1 HDI.out.ok HKX.out.z0).mono ?_
                  rintro e wf ⟨rfl, hbf⟩
                  have HBF := Lib.hid hbf
                  clear hbf
                  go_wp2_with fail
                  go_roundw
                  case rel => exact ⟨k + 1, _, _, tick, has, m, qs, by omega, by omega, by go_num, ⟨HKX.out.ta.below HBF.out, HKX.out.rt.below HBF.out, HKX.out.lk, HKX.out.zv, HKX.out.z0, Bt HKX.out.bel HBF.out, HKX.out.sW, HKX.out.tW, HKX.out.st⟩⟩
                  case measure => simp [intOf]; omega
        · obtain rfl : k = 60 := by omega
          go_wp2_with fail
          refine (works_any wv).mono ?_
          rintro e w2 ⟨rfl, hb2⟩
          have HB2 := Lib.hid (Bt HK.out.bel hb2)
          clear hb2
          go_wp2_with fail
          go_ret
          exact ⟨rfl, HB2.out⟩
      · obtain rfl : k = ds.length := by omega
        go_wp2_with fail
        refine (works_any wv).mono ?_
        rintro e w2 ⟨rfl, hb2⟩
        have HB2 := Lib.hid (Bt HK.out.bel hb2)
        clear hb2
        go_wp2_with fail
        go_ret
        exact ⟨rfl, HB2.out⟩
end Go.Proofs.Ytgmndppjdnpejaa
