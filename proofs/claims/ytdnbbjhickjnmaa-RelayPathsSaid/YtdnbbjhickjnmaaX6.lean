/- The statement RelayPaths: its walk. -/
import Derived.Test.YtdnbbjhickjnmaaR13
import Derived.Test.YtdnbbjhickjnmaaX4
namespace Go.Proofs.Ytdnbbjhickjnmaa
open Go.RowKit Go.WideShapes Go.ChangeShapes
set_option maxRecDepth 20000
set_option linter.unusedVariables false
set_option linter.unusedSimpArgs false

theorem rscore_is (p g h : Nat) (l : Pth) (n : Int) {s : Nat} (hs : scoreF l n = s) (w : World) (k : RefAt w p g h l) : Calls Try.prog 36 #[.pointer (some ⟨p, 0, none⟩), .int .i64 n] w fun e w' => e = .returned (.float .f64 s) ∧ w = w' := hs ▸ rscore_any p g h l n w k

set_option maxHeartbeats 2000000 in
theorem relayPaths_err (W : World) (r0 : Int) (h0 : r0 < 0 ∨ 3 < r0) (A : Option Addr) (c : Nat) (rs : List Rp) (hrs : RpsRd W A c rs) :
    Calls Try.prog 9 #[.int .i64 r0, .slice A rs.length c] W fun e w' => e = .returned (.bool true) ∧ Below W.heap.size W w' := by
  clear hrs
  have H0 := Lib.hid h0
  clear h0
  go_enter Try.func9, Try.ntmps9
  go_wp2_with fail
  refine (begin_err r0 H0.out _).mono ?_
  rintro e w' ⟨rfl, rfl⟩
  go_wp2_with fail
  refine (rbegin_err r0 H0.out _).mono ?_
  rintro e w' ⟨rfl, rfl⟩
  go_wp2_with fail
  go_loopw [9] (fun i wr => i = .int .i64 0 ∧ wr = W) (fun i _ => 1 - (intOf i).toNat)
  case atStart => exact ⟨rfl, rfl⟩
  case round =>
    obtain ⟨rfl, rfl⟩ := hrel
    by_cases hjl : (0 : Int) < (rs.length : Int)
    · go_wp2_with fail
      refine (works_any _).mono ?_
      rintro e w1 ⟨rfl, hb1⟩
      go_wp2_with fail
      go_ret
      exact ⟨rfl, hb1⟩
    · go_wp2_with fail
      refine (works_any _).mono ?_
      rintro e w1 ⟨rfl, hb1⟩
      go_wp2_with fail
      go_ret
      exact ⟨rfl, hb1⟩

set_option maxHeartbeats 8000000 in
theorem relayPaths_ok (W : World) (m : Nat) (hm : m ≤ 3) (A : Option Addr) (c : Nat) (rs : List Rp) (hrs : RpsRd W A c rs) :
    Calls Try.prog 9 #[.int .i64 m, .slice A rs.length c] W fun e w' => e = .returned (.bool true) ∧ Below W.heap.size W w' := by
  have hm1 : (m : Int) ≤ 3 := by omega
  have hcap := hrs.cap
  have hmost := hrs.most
  have HR := Lib.hid hrs
  have hsf := store_float
  clear hrs
  go_enter Try.func9, Try.ntmps9
  go_wp2_with fail
  refine (begin_any m (by omega) _).mono ?_
  rintro e w1 ⟨rfl, hb1, hp1, hz⟩
  have HP1 := Lib.hid hp1
  have HW1 := Lib.hid hb1
  obtain ⟨g, hg⟩ : ∃ g, g = W.heap.size := ⟨_, rfl⟩
  rw [← hg] at HP1 hz ⊢
  have lg : W.heap.size ≤ g := by omega
  clear hp1 hb1 hg
  go_wp2_with fail
  refine (rbegin_any m (by omega) _).mono ?_
  rintro e w2 ⟨p2, g2, h2, rfl, hb2, hr2, l1, l2, l3⟩
  have HP2 := Lib.hid (HP1.out.later hb2)
  have HR2 := Lib.hid hr2
  have HW2 := Lib.hid (show Below W.heap.size W w2 from Bt HW1.out hb2)
  rw [hz] at l1 l2 l3
  clear hb2 hr2 HP1 HW1 hz
  go_wp2_with fail
  go_loopw [9] (fun i wr => ∃ j : Nat, ∃ l : Pth, j ≤ rs.length ∧ i = .int .i64 j ∧ PathsAt wr (g + 1) g l ∧ RefAt wr p2 g2 h2 l ∧ l.length = m + 1 ∧ GoodL l ∧ Below W.heap.size W wr) (fun i _ => rs.length - (intOf i).toNat)
  case atStart => exact ⟨0, _, Nat.zero_le _, rfl, HP2.out, HR2.out, by simp, goodL_new _, HW2.out⟩
  case round =>
    obtain ⟨j, l, hj, rfl, hp, hr, hll, hG, hbr⟩ := hrel
    obtain ⟨wo, rfl⟩ : ∃ wo, wo = wr := ⟨_, rfl⟩
    by_cases hlt : j < rs.length ∧ j < 200
    · obtain ⟨hlt, h100⟩ := hlt
      have hlt' : (j : Int) < (rs.length : Int) := by omega
      have h100' : (j : Int) < 200 := by omega
      have hj0 : (0 : Int) ≤ (j : Int) := by omega
      obtain ⟨ga, oa, hA, hga, hx⟩ := HR.out.at_ j hlt
      obtain ⟨x, hxe⟩ : ∃ x, x = rs[j] := ⟨_, rfl⟩
      rw [← hxe] at hx
      subst hA
      obtain ⟨hxt, x0, x1, x2⟩ := hx
      have hx0 : wo.cell? ⟨ga, oa + j * 3, none⟩ = some (.int .i64 x.n) := (hbr.cell hga).trans x0
      have hx1 : wo.cell? ⟨ga, oa + j * 3 + 1, none⟩ = some (.bool x.lost) := (hbr.cell hga).trans x1
      have hx2 : wo.cell? ⟨ga, oa + j * 3 + 2, none⟩ = some (.float .f64 x.t) := (hbr.cell hga).trans x2
      have HPl := Lib.hid hp
      have HRl := Lib.hid hr
      have HBr := Lib.hid hbr
      have lr := hbr.size
      have lp := hp.1.lt
      have lp2 := hr.1.lt
      have lg2 := hr.2.1.lt
      have lh2 := hr.2.2.1.lt
      clear hxe x0 x1 x2 hp hr hbr
      obtain ⟨fe, hfe⟩ : ∃ fe, fe = doneE l x := ⟨_, rfl⟩
      obtain ⟨l', hl'⟩ : ∃ l', l' = doneL l x := ⟨_, rfl⟩
      have hG' : GoodL l' := hl' ▸ done_good hG x hxt
      have hll' : l'.length = m + 1 := by rw [hl', done_length, hll]
      have HA1 := Lib.hid (And.intro hG' hll')
      have HFE := Lib.hid hfe
      have HL' := Lib.hid hl'
      clear hG' hll' hfe hl'
      cases hlost : x.lost
      · skip
        rw [hlost] at hx1
        go_wp2_with fail
        obtain ⟨wa, hwa⟩ : ∃ wa, wa = wo.alloc (.cells #[.int .i64 x.n, .bool false, .float .f64 x.t] 54) := ⟨_, rfl⟩
        rw [← hwa]
        have HBa := Lib.hid (show Below wo.heap.size wo wa from hwa ▸ Ba (B0 wo) _)
        have hBx : Blk wa wo.heap.size 54 #[.int .i64 x.n, .bool false, .float .f64 x.t] := hwa ▸ Blk.new wo 54 _
        have lwa : wo.heap.size < wa.heap.size := hBx.lt
        obtain ⟨y0, y1, y2, _⟩ := blk3 hBx
        have HBX := Lib.hid hBx
        have HPa := Lib.hid (HPl.out.later HBa.out)
        have HRa := Lib.hid (HRl.out.later HBa.out)
        clear hwa hBx hx0 hx1 hx2
        have HE : Hid (repE l x.n x.t = fe ∧ repL l x.n x.t = l') := Lib.hid ⟨by rw [HFE.out]; simp [doneE, hlost], by rw [HL'.out]; simp [doneL, hlost]⟩
        go_region_held3 (fun w' => w'.cell? ⟨wo.heap.size, 0, none⟩ = some (.int .i64 x.n) ∧ w'.cell? ⟨wo.heap.size, 2, none⟩ = some (.float .f64 x.t)) (first | go_keep | (refine ⟨hm4.cell y0 (show ¬ wo.heap.size = g by omega), hm4.cell y2 (show ¬ wo.heap.size = g by omega)⟩) | (refine ⟨hm5.cell (hm4.cell y0 (show ¬ wo.heap.size = g by omega)) (show ¬ (wo.heap.size = g2 ∨ wo.heap.size = h2) by omega), hm5.cell (hm4.cell y2 (show ¬ wo.heap.size = g by omega)) (show ¬ (wo.heap.size = g2 ∨ wo.heap.size = h2) by omega)⟩))
          (first
            | (go_at_call 30; refine (report_any _ g l x.n x.t hxt hG _ (HPa.out.later (Bd (B0 wa)))).mono ?_; rintro e w4 ⟨rfl, hm4, hp4⟩; rw [HE.out.1]; rw [HE.out.2] at hp4; replace hm4 : Mod (fun k => k = g) wa w4 := (Mod.refl (fun k => k = g) wa).drew.trans hm4 (fun i hi => .inl hi))
            | (go_at_call 35; refine (rreport_any p2 g2 h2 l x.n x.t hxt hG _ (HRa.out.kept hm4 (by omega) (by omega) (by omega))).mono ?_; rintro e w5 ⟨rfl, hm5, hr5⟩; rw [HE.out.1]; rw [HE.out.2] at hr5))
        have HP5 := Lib.hid (hp4.kept hm5 (show ¬ (g + 1 = g2 ∨ g + 1 = h2) by omega) (show ¬ (g = g2 ∨ g = h2) by omega))
        have HR5 := Lib.hid hr5
        have HB5 := Lib.hid (Bm (Bm (Bt HBr.out HBa.out) hm4 (fun i hi => by omega)) hm5 (fun i hi => by omega))
        clear hp4 hm4 hm5 hr5 y0 y1 y2
        go_wp2_with fail
        go_loopw [11] (fun i wr => ∃ k : Int, -1 ≤ k ∧ k ≤ 5 ∧ i = .int .i64 k ∧ Below w5.heap.size w5 wr) (fun i _ => (5 - intOf i).toNat)
        case atStart => exact ⟨-1, by omega, by omega, rfl, B0 w5⟩
        case round =>
          obtain ⟨k, hk0, hk5, rfl, hb6⟩ := hrel
          have HP6 := Lib.hid (HP5.out.later hb6)
          have HR6 := Lib.hid (HR5.out.later hb6)
          have HB6 := Lib.hid hb6
          clear hb6
          by_cases hk : k < 5
          · obtain ⟨s, hs⟩ : ∃ s, s = scoreF l' k := ⟨_, rfl⟩
            have ho := order_self s (hs ▸ goodL_score HA1.out.1 k)
            have HS := Lib.hid hs.symm
            clear hs
            go_wp2_with fail
            refine (score_is _ g l' k HS.out _ HP6.out).mono ?_
            rintro e w' ⟨rfl, rfl⟩
            go_wp2_with fail
            refine (rscore_is p2 g2 h2 l' k HS.out _ HR6.out).mono ?_
            rintro e w' ⟨rfl, rfl⟩
            go_wp2_with fail
            go_roundw
            case rel => exact ⟨k + 1, by omega, by omega, by go_num, HB6.out⟩
            case measure => simp [intOf]; omega
          · go_wp2_with fail
            refine (best_any _ g l' _ HP6.out).mono ?_
            rintro e w7 ⟨rfl, hb7⟩
            have HP7 := Lib.hid (HP6.out.later hb7)
            have HR7 := Lib.hid (HR6.out.later hb7)
            have HB7 := Lib.hid (Bt (Bt HB5.out HB6.out) hb7)
            clear hb7
            generalize hbf : bestF l' = bf
            have HBF := Lib.hid hbf
            clear hbf
            go_wp2_with fail
            refine (rbest_any p2 g2 h2 l' _ HR7.out).mono ?_
            rintro e w8 ⟨rfl, hb8⟩
            rw [HBF.out]
            have HP8 := Lib.hid (HP7.out.later hb8)
            have HR8 := Lib.hid (HR7.out.later hb8)
            have HB8 := Lib.hid (Bt HB7.out hb8)
            clear hb8
            go_wp2_with fail
            go_roundw
            case rel => exact ⟨j + 1, l', by omega, by go_num, HP8.out, HR8.out, HA1.out.2, HA1.out.1, HB8.out⟩
            case measure => simp [intOf]; omega
      · skip
        rw [hlost] at hx1
        go_wp2_with fail
        obtain ⟨wa, hwa⟩ : ∃ wa, wa = wo.alloc (.cells #[.int .i64 x.n, .bool true, .float .f64 x.t] 54) := ⟨_, rfl⟩
        rw [← hwa]
        have HBa := Lib.hid (show Below wo.heap.size wo wa from hwa ▸ Ba (B0 wo) _)
        have hBx : Blk wa wo.heap.size 54 #[.int .i64 x.n, .bool true, .float .f64 x.t] := hwa ▸ Blk.new wo 54 _
        have lwa : wo.heap.size < wa.heap.size := hBx.lt
        obtain ⟨y0, y1, y2, _⟩ := blk3 hBx
        have HBX := Lib.hid hBx
        have HPa := Lib.hid (HPl.out.later HBa.out)
        have HRa := Lib.hid (HRl.out.later HBa.out)
        clear hwa hBx hx0 hx1 hx2
        have HE : Hid (lostE l x.n = fe ∧ lostL l x.n = l') := Lib.hid ⟨by rw [HFE.out]; simp [doneE, hlost], by rw [HL'.out]; simp [doneL, hlost]⟩
        go_region_held3 (fun w' => w'.cell? ⟨wo.heap.size, 0, none⟩ = some (.int .i64 x.n) ∧ w'.cell? ⟨wo.heap.size, 2, none⟩ = some (.float .f64 x.t)) (first | go_keep | (refine ⟨hm4.cell y0 (show ¬ wo.heap.size = g by omega), hm4.cell y2 (show ¬ wo.heap.size = g by omega)⟩) | (refine ⟨hm5.cell (hm4.cell y0 (show ¬ wo.heap.size = g by omega)) (show ¬ (wo.heap.size = g2 ∨ wo.heap.size = h2) by omega), hm5.cell (hm4.cell y2 (show ¬ wo.heap.size = g by omega)) (show ¬ (wo.heap.size = g2 ∨ wo.heap.size = h2) by omega)⟩))
          (first
            | (go_at_call 29; refine (lost_any _ g l x.n _ (HPa.out.later (Bd (B0 wa)))).mono ?_; rintro e w4 ⟨rfl, hm4, hp4⟩; rw [HE.out.1]; rw [HE.out.2] at hp4; replace hm4 : Mod (fun k => k = g) wa w4 := (Mod.refl (fun k => k = g) wa).drew.trans hm4 (fun i hi => .inl hi))
            | (go_at_call 34; refine (rlost_any p2 g2 h2 l x.n _ (HRa.out.kept hm4 (by omega) (by omega) (by omega))).mono ?_; rintro e w5 ⟨rfl, hm5, hr5⟩; rw [HE.out.1]; rw [HE.out.2] at hr5))
        have HP5 := Lib.hid (hp4.kept hm5 (show ¬ (g + 1 = g2 ∨ g + 1 = h2) by omega) (show ¬ (g = g2 ∨ g = h2) by omega))
        have HR5 := Lib.hid hr5
        have HB5 := Lib.hid (Bm (Bm (Bt HBr.out HBa.out) hm4 (fun i hi => by omega)) hm5 (fun i hi => by omega))
        clear hp4 hm4 hm5 hr5 y0 y1 y2
        go_wp2_with fail
        go_loopw [11] (fun i wr => ∃ k : Int, -1 ≤ k ∧ k ≤ 5 ∧ i = .int .i64 k ∧ Below w5.heap.size w5 wr) (fun i _ => (5 - intOf i).toNat)
        case atStart => exact ⟨-1, by omega, by omega, rfl, B0 w5⟩
        case round =>
          obtain ⟨k, hk0, hk5, rfl, hb6⟩ := hrel
          have HP6 := Lib.hid (HP5.out.later hb6)
          have HR6 := Lib.hid (HR5.out.later hb6)
          have HB6 := Lib.hid hb6
          clear hb6
          by_cases hk : k < 5
          · obtain ⟨s, hs⟩ : ∃ s, s = scoreF l' k := ⟨_, rfl⟩
            have ho := order_self s (hs ▸ goodL_score HA1.out.1 k)
            have HS := Lib.hid hs.symm
            clear hs
            go_wp2_with fail
            refine (score_is _ g l' k HS.out _ HP6.out).mono ?_
            rintro e w' ⟨rfl, rfl⟩
            go_wp2_with fail
            refine (rscore_is p2 g2 h2 l' k HS.out _ HR6.out).mono ?_
            rintro e w' ⟨rfl, rfl⟩
            go_wp2_with fail
            go_roundw
            case rel => exact ⟨k + 1, by omega, by omega, by go_num, HB6.out⟩
            case measure => simp [intOf]; omega
          · go_wp2_with fail
            refine (best_any _ g l' _ HP6.out).mono ?_
            rintro e w7 ⟨rfl, hb7⟩
            have HP7 := Lib.hid (HP6.out.later hb7)
            have HR7 := Lib.hid (HR6.out.later hb7)
            have HB7 := Lib.hid (Bt (Bt HB5.out HB6.out) hb7)
            clear hb7
            generalize hbf : bestF l' = bf
            have HBF := Lib.hid hbf
            clear hbf
            go_wp2_with fail
            refine (rbest_any p2 g2 h2 l' _ HR7.out).mono ?_
            rintro e w8 ⟨rfl, hb8⟩
            rw [HBF.out]
            have HP8 := Lib.hid (HP7.out.later hb8)
            have HR8 := Lib.hid (HR7.out.later hb8)
            have HB8 := Lib.hid (Bt HB7.out hb8)
            clear hb8
            go_wp2_with fail
            go_roundw
            case rel => exact ⟨j + 1, l', by omega, by go_num, HP8.out, HR8.out, HA1.out.2, HA1.out.1, HB8.out⟩
            case measure => simp [intOf]; omega
    · have fin : ∀ (e : Ending) (w' : World), True := fun _ _ => trivial
      by_cases hjl : (j : Int) < (rs.length : Int)
      · have h100 : ¬ ((j : Int) < 200) := by omega
        go_wp2_with fail
        refine (works_any _).mono ?_
        rintro e w9 ⟨rfl, hb9⟩
        go_wp2_with fail
        go_ret
        exact ⟨rfl, Bt hbr hb9⟩
      · go_wp2_with fail
        refine (works_any _).mono ?_
        rintro e w9 ⟨rfl, hb9⟩
        go_wp2_with fail
        go_ret
        exact ⟨rfl, Bt hbr hb9⟩

theorem relayPaths_walk {H : Type} {enc : TypeId × Value → H} (W : World) (r0 : Int) (w0 : (Lit.int .i64 r0).wf = true) {base : Nat} {sp : Nat → Bool} {held : Bool} {v : Value} {d : DataW H} {p : List MemPlace} (hv : Value.okWide Try.prog W .any base 48 v) (ht : DataW.Trod enc Try.prog W 0 sp held 48 v d p)
    (hz : ∀ n ∈ d.weights Try.prog 48, n ≤ reachBytes) :
    Calls Try.prog 9 #[.int .i64 r0, v] W fun e w' => e = .returned (.bool true) ∧ Below W.heap.size W w' := by
  obtain ⟨A, c, l, rfl, hl⟩ := open_reports hv ht
  by_cases h : r0 < 0 ∨ 3 < r0
  · exact relayPaths_err W r0 h A c l hl
  · obtain ⟨m, rfl⟩ := Int.eq_ofNat_of_zero_le (show 0 ≤ r0 by omega)
    exact relayPaths_ok W m (by omega) A c l hl
end Go.Proofs.Ytdnbbjhickjnmaa
