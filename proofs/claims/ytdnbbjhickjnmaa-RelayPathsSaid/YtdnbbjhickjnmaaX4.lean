/- The statement RelayApart: its walk. -/
import Derived.Test.YtdnbbjhickjnmaaR11
namespace Go.Proofs.Ytdnbbjhickjnmaa
open Go.RowKit Go.WideShapes Go.ChangeShapes
set_option maxRecDepth 20000
set_option linter.unusedVariables false
set_option linter.unusedSimpArgs false

def doneE (l : Pth) (x : Rp) : Int := if x.lost then lostE l x.n else repE l x.n x.t
def doneL (l : Pth) (x : Rp) : Pth := if x.lost then lostL l x.n else repL l x.n x.t
theorem done_good {l : Pth} (h : GoodL l) (x : Rp) (hx : x.t < 18446744073709551616) : GoodL (doneL l x) := by
  unfold doneL
  split
  · exact goodL_lost h _
  · exact goodL_rep h _ _ hx
theorem done_length (l : Pth) (x : Rp) : (doneL l x).length = l.length := by
  unfold doneL
  split
  · exact lost_length _ _
  · exact rep_length _ _ _
theorem score_set {l : Pth} {a b : Int} (ha : pin l a = true) (y : Nat × Bool) (hne : b ≠ a) : scoreF (l.set a.toNat y) b = scoreF l b := by
  have e : pin (l.set a.toNat y) b = pin l b := by unfold pin; rw [List.length_set]
  unfold scoreF
  rw [e]
  split
  · rename_i hb
    obtain ⟨i, rfl, hi⟩ := pin_nat ha
    obtain ⟨j, rfl, hj⟩ := pin_nat hb
    rw [Int.toNat_natCast, Int.toNat_natCast, List.getD_eq_getElem?_getD, List.getD_eq_getElem?_getD, List.getElem?_set_ne (by omega)]
  · rfl
theorem done_apart (l : Pth) (x : Rp) (n : Int) (h : doneE l x ≠ 0 ∨ n ≠ x.n) : scoreF (doneL l x) n = scoreF l n := by
  unfold doneE at h
  unfold doneL
  split
  · rename_i hl
    rw [if_pos hl] at h
    unfold lostL
    split
    · rename_i hp
      rcases h with h | h
      · exact absurd (lostE_ok hp) h
      · exact score_set hp _ h
    · rfl
  · rename_i hl
    rw [if_neg hl] at h
    unfold repL
    split
    · rename_i hp
      rw [Bool.and_eq_true] at hp
      rcases h with h | h
      · exact absurd (repE_ok hp.1 hp.2) h
      · exact score_set hp.1 _ h
    · rfl
def wcells (k : Nat) (l : Pth) : Array Value := #[.float .f64 (if 0 < k then scoreF l 0 else 0), .float .f64 (if 1 < k then scoreF l 1 else 0), .float .f64 (if 2 < k then scoreF l 2 else 0), .float .f64 (if 3 < k then scoreF l 3 else 0)]
theorem wcells_zero (l : Pth) : wcells 0 l = #[.float .f64 0, .float .f64 0, .float .f64 0, .float .f64 0] := by simp [wcells]
theorem wcells_set (k : Nat) (l : Pth) (hk : k < 4) : (wcells k l).setIfInBounds k (.float .f64 (scoreF l k)) = wcells (k + 1) l := by
  obtain rfl | rfl | rfl | rfl : k = 0 ∨ k = 1 ∨ k = 2 ∨ k = 3 := by omega
  all_goals simp [wcells]
theorem wcells_at (k n : Nat) (l : Pth) (hk : k < n) (hn : n ≤ 4) : (wcells n l)[k]? = some (.float .f64 (scoreF l k)) := by
  obtain rfl | rfl | rfl | rfl : k = 0 ∨ k = 1 ∨ k = 2 ∨ k = 3 := by omega
  all_goals simp [wcells]; try omega
theorem wcells_any (k n : Nat) (l : Pth) (hk : k < 4) : ∃ u, (wcells n l)[k]? = some u := by
  obtain rfl | rfl | rfl | rfl : k = 0 ∨ k = 1 ∨ k = 2 ∨ k = 3 := by omega
  all_goals exact ⟨_, rfl⟩
theorem score_is (p g : Nat) (l : Pth) (n : Int) {s : Nat} (hs : scoreF l n = s) (w : World) (h : PathsAt w p g l) : Calls Try.prog 32 #[.pointer (some ⟨p, 0, none⟩), .int .i64 n] w fun e w' => e = .returned (.float .f64 s) ∧ w = w' := hs ▸ score_any p g l n w h
theorem quiet_same {P : Program} {f : FuncId} {args : Array Value} {w : World} {n : Nat} {v : Value}
    (h : Calls P f args (w.drewN n) fun e w' => e = .returned v ∧ w.drewN n = w') : Calls P f args (w.drewN n) fun e w'' => e = .returned v ∧ ∃ m, w'' = w.drewN m :=
  h.mono fun _ _ ⟨he, hm⟩ => ⟨he, n, hm.symm⟩

set_option maxHeartbeats 8000000 in
theorem relayApart_list (W : World) (r0 : Int) (A : Option Addr) (c : Nat) (rs : List Rp) (hrs : RpsRd W A c rs) :
    Calls Try.prog 7 #[.int .i64 r0, .slice A rs.length c] W fun e w' => e = .returned (.bool true) ∧ Below W.heap.size W w' := by
  have hm := bringF_lt r0 4 (by omega)
  obtain ⟨m, hM⟩ : ∃ m : Nat, bringF r0 4 = m := ⟨(bringF r0 4).toNat, by omega⟩
  rw [hM] at hm
  have hm1 : (m : Int) ≤ 3 := by omega
  have HM := Lib.hid hM
  have hcap := hrs.cap
  have hmost := hrs.most
  have HR := Lib.hid hrs
  have hsf := store_float
  clear hm hM hrs
  go_enter Try.func7, Try.ntmps7
  go_wp2_with fail
  refine (works_any _).mono ?_
  rintro e w1 ⟨rfl, hb1⟩
  go_wp2_with fail
  refine (bring_any r0 4 _ (by omega)).mono ?_
  rintro e w' ⟨rfl, rfl⟩
  rw [HM.out]
  go_wp2_with fail
  refine (begin_any m (by omega) _).mono ?_
  rintro e w2 ⟨rfl, hb2, hp, hz⟩
  have HP := Lib.hid hp
  have HW2 := Lib.hid (Bt hb1 hb2)
  have lg := hb1.size
  clear hp hb2 hb1
  obtain ⟨g, hg⟩ : ∃ g, g = w1.heap.size := ⟨_, rfl⟩
  rw [← hg] at HP hz lg ⊢
  clear hg
  go_wp2_with fail
  go_loopw [7] (fun i wr => ∃ j : Nat, ∃ l : Pth, j ≤ rs.length ∧ i = .int .i64 j ∧ PathsAt wr (g + 1) g l ∧ l.length = m + 1 ∧ GoodL l ∧ Below W.heap.size W wr) (fun i _ => rs.length - (intOf i).toNat)
  case atStart => exact ⟨0, _, Nat.zero_le _, rfl, HP.out, by simp, goodL_new _, HW2.out⟩
  case round =>
    obtain ⟨j, l, hj, rfl, hp, hll, hG, hbr⟩ := hrel
    obtain ⟨wo, rfl⟩ : ∃ wo, wo = wr := ⟨_, rfl⟩
    by_cases hlt : j < rs.length ∧ j < 100
    · obtain ⟨hlt, h100⟩ := hlt
      have hlt' : (j : Int) < (rs.length : Int) := by omega
      have h100' : (j : Int) < 100 := by omega
      have hj0 : (0 : Int) ≤ (j : Int) := by omega
      obtain ⟨ga, oa, hA, hga, hx⟩ := HR.out.at_ j hlt
      obtain ⟨x, hxe⟩ : ∃ x, x = rs[j] := ⟨_, rfl⟩
      rw [← hxe] at hx
      subst hA
      obtain ⟨hxt, x0, x1, x2⟩ := hx
      have HX := Lib.hid (And.intro x0 (And.intro x1 x2))
      have HPl := Lib.hid hp
      have HBr := Lib.hid hbr
      have lp := hp.1.lt
      have lgr := hp.2.1.lt
      have lr := hbr.size
      clear hxe x0 x1 x2 hp hbr
      go_wp2_with fail
      go_loopw [9] (fun i wr => ∃ k : Nat, k ≤ m + 1 ∧ i = .int .i64 k ∧ Blk wr wo.heap.size 60 (wcells k l) ∧ Below wo.heap.size wo wr) (fun i _ => m + 1 - (intOf i).toNat)
      case atStart => exact ⟨0, Nat.zero_le _, rfl, by rw [wcells_zero]; exact Blk.new wo 60 _, Ba (B0 wo) _⟩
      case round =>
        obtain ⟨k, hk, rfl, hbk, hbq⟩ := hrel
        have HPq := Lib.hid (HPl.out.later hbq)
        by_cases hkm : k < m + 1
        · have hkm' : (k : Int) ≤ (m : Int) := by omega
          have hk0 : (0 : Int) ≤ (k : Int) := by omega
          have hk4 : (k : Int) < 4 := by omega
          obtain ⟨u, hu⟩ := wcells_any k k l (by omega)
          have d0 := (hbk.cell k).trans hu
          have z0 := hbk.frozen k
          have HK := Lib.hid (And.intro hbk hbq)
          clear hbk hbq hu
          go_wp2_with fail
          refine (score_any _ g l k _ HPq.out).mono ?_
          rintro e w' ⟨rfl, rfl⟩
          go_wp2_with fail
          go_roundw
          case rel =>
            refine ⟨k + 1, by omega, by go_num, ?_, Bs HK.out.2 (Nat.le_refl _) _⟩
            rw [← wcells_set k l (by omega)]
            exact HK.out.1.set_ k _
          case measure => simp [intOf]; omega
        · obtain rfl : k = m + 1 := by omega
          have hkm' : ¬ ((m + 1 : Nat) : Int) ≤ (m : Int) := by omega
          have HK := Lib.hid (And.intro hbk hbq)
          have hb := Bt HBr.out hbq
          have lwq := hbk.lt
          obtain ⟨y0, y1, y2⟩ := HX.out
          have hx0 : wr.cell? ⟨ga, oa + j * 3, none⟩ = some (.int .i64 x.n) := (hb.cell hga).trans y0
          have hx1 : wr.cell? ⟨ga, oa + j * 3 + 1, none⟩ = some (.bool x.lost) := (hb.cell hga).trans y1
          have hx2 : wr.cell? ⟨ga, oa + j * 3 + 2, none⟩ = some (.float .f64 x.t) := (hb.cell hga).trans y2
          have HBq := Lib.hid hb
          clear hbk hbq hb y0 y1 y2 hk hkm
          obtain ⟨fe, hfe⟩ : ∃ fe, fe = doneE l x := ⟨_, rfl⟩
          obtain ⟨l', hl'⟩ : ∃ l', l' = doneL l x := ⟨_, rfl⟩
          have hA1 : ∀ n : Int, (fe ≠ 0 ∨ n ≠ x.n) → scoreF l' n = scoreF l n := fun n h => by rw [hl']; exact done_apart l x n (by rw [← hfe]; exact h)
          have hG' : GoodL l' := hl' ▸ done_good hG x hxt
          have hll' : l'.length = m + 1 := by rw [hl', done_length, hll]
          have HA1 := Lib.hid (And.intro hA1 (And.intro hG' hll'))
          have HFE := Lib.hid hfe
          clear hA1 hG' hll' hfe
          cases hlost : x.lost
          · skip
            have ee : repE l x.n x.t = fe := by rw [HFE.out]; simp [doneE, hlost]
            have el : repL l x.n x.t = l' := by rw [hl']; simp [doneL, hlost]
            have HE := Lib.hid (And.intro ee el)
            clear ee el hl'
            rw [hlost] at hx1
            go_wp2_with fail
            go_region_held3 (fun w' => w'.cell? ⟨ga, oa + j * 3, none⟩ = some (.int .i64 x.n) ∧ w'.cell? ⟨ga, oa + j * 3 + 2, none⟩ = some (.float .f64 x.t)) (first | go_keep | (refine ⟨hm4.cell hx0 (show ¬ ga = g by omega), hm4.cell hx2 (show ¬ ga = g by omega)⟩)) (first | (go_at_call 30; refine (report_any _ g l x.n x.t hxt hG _ (HPq.out.later (Bd (B0 wr)))).mono ?_; rintro e w4 ⟨rfl, hm4, hp4⟩; rw [HE.out.1]; rw [HE.out.2] at hp4; replace hm4 : Mod (fun k => k = g) wr w4 := (Mod.refl (fun k => k = g) wr).drew.trans hm4 (fun i hi => .inl hi)))
            have HB4 := Lib.hid (And.intro hp4 (And.intro (HK.out.1.kept hm4 (by omega)) (Bm HBq.out hm4 (fun i hi => by omega))))
            have lw4 := hm4.size
            clear lw4
            clear hp4 hm4 HPq hx1 hx2
            go_wp2_with fail
            go_loopw [11] (fun i ws => ∃ k : Nat, k ≤ m + 1 ∧ i = .int .i64 k ∧ Below w4.heap.size w4 ws) (fun i _ => m + 1 - (intOf i).toNat)
            case atStart => exact ⟨0, Nat.zero_le _, rfl, B0 w4⟩
            case round =>
              obtain ⟨k, hk, rfl, hb5⟩ := hrel
              have HB5 := Lib.hid hb5
              have HP5 := Lib.hid (HB4.out.1.later hb5)
              by_cases hkm : k < m + 1
              · have hkm' : (k : Int) ≤ (m : Int) := by omega
                have hk0 : (0 : Int) ≤ (k : Int) := by omega
                have hk4 : (k : Int) < 4 := by omega
                have d0 : wr.cell? ⟨wo.heap.size, k, none⟩ = some (.float .f64 (scoreF l k)) := ((HB4.out.2.1.later hb5).cell k).trans (wcells_at k (m + 1) l (by omega) (by omega))
                have e0 : wr.cell? ⟨ga, oa + j * 3, none⟩ = some (.int .i64 x.n) := ((Bt HB4.out.2.2 hb5).cell hga).trans HX.out.1
                have hsc := HA1.out.1 (k : Int)
                obtain ⟨sk, hsk⟩ : ∃ sk, sk = scoreF l (k : Int) := ⟨_, rfl⟩
                have ho := order_self sk (hsk ▸ goodL_score hG k)
                rw [← hsk] at d0 hsc
                obtain ⟨sk', hsk'⟩ : ∃ sk', sk' = scoreF l' (k : Int) := ⟨_, rfl⟩
                rw [← hsk'] at hsc
                have HSK := Lib.hid hsk'
                clear hsk hsk' hkm hb5
                cases hE : (fe != 0)
                · have hf0 : fe = 0 := by simpa using hE
                  cases hN : ((k : Int) != x.n)
                  · clear hsc ho d0
                    go_wp2_with fail
                    go_quiet ((go_at_call 32; exact quiet_same (score_is _ g l' k HSK.out.symm _ (HP5.out.later (BdN (B0 wr) _)))))
                    go_wp2_with fail
                    go_roundw
                    case rel => exact ⟨k + 1, by omega, by go_num, BdN HB5.out nq⟩
                    case measure => simp [intOf]; omega
                  · have hs := hsc (.inr (by simpa using hN))
                    clear hsc
                    subst hs
                    go_wp2_with fail
                    go_quiet ((go_at_call 32; exact quiet_same (score_is _ g l' k HSK.out.symm _ (HP5.out.later (BdN (B0 wr) _)))))
                    go_wp2_with fail
                    go_roundw
                    case rel => exact ⟨k + 1, by omega, by go_num, BdN HB5.out nq⟩
                    case measure => simp [intOf]; omega
                · have hs := hsc (.inl (by simpa using hE))
                  clear hsc
                  subst hs
                  go_wp2_with fail
                  go_quiet ((go_at_call 32; exact quiet_same (score_is _ g l' k HSK.out.symm _ (HP5.out.later (BdN (B0 wr) _)))))
                  go_wp2_with fail
                  go_roundw
                  case rel => exact ⟨k + 1, by omega, by go_num, BdN HB5.out nq⟩
                  case measure => simp [intOf]; omega
              · obtain rfl : k = m + 1 := by omega
                have hkm' : ¬ ((m + 1 : Nat) : Int) ≤ (m : Int) := by omega
                go_wp2_with fail
                go_roundw
                case rel => exact ⟨j + 1, l', by omega, by go_num, HP5.out, HA1.out.2.2, HA1.out.2.1, Bt HB4.out.2.2 HB5.out⟩
                case measure => simp [intOf]; omega
          · skip
            have ee : lostE l x.n = fe := by rw [HFE.out]; simp [doneE, hlost]
            have el : lostL l x.n = l' := by rw [hl']; simp [doneL, hlost]
            have HE := Lib.hid (And.intro ee el)
            clear ee el hl'
            rw [hlost] at hx1
            go_wp2_with fail
            refine (lost_any _ g l x.n _ HPq.out).mono ?_
            rintro e w4 ⟨rfl, hm4, hp4⟩
            rw [HE.out.1]
            rw [HE.out.2] at hp4
            have HB4 := Lib.hid (And.intro hp4 (And.intro (HK.out.1.kept hm4 (by omega)) (Bm HBq.out hm4 (fun i hi => by omega))))
            have lw4 := hm4.size
            clear lw4
            clear hp4 hm4 HPq hx1 hx2
            go_wp2_with fail
            go_loopw [11] (fun i ws => ∃ k : Nat, k ≤ m + 1 ∧ i = .int .i64 k ∧ Below w4.heap.size w4 ws) (fun i _ => m + 1 - (intOf i).toNat)
            case atStart => exact ⟨0, Nat.zero_le _, rfl, B0 w4⟩
            case round =>
              obtain ⟨k, hk, rfl, hb5⟩ := hrel
              have HB5 := Lib.hid hb5
              have HP5 := Lib.hid (HB4.out.1.later hb5)
              by_cases hkm : k < m + 1
              · have hkm' : (k : Int) ≤ (m : Int) := by omega
                have hk0 : (0 : Int) ≤ (k : Int) := by omega
                have hk4 : (k : Int) < 4 := by omega
                have d0 : wr.cell? ⟨wo.heap.size, k, none⟩ = some (.float .f64 (scoreF l k)) := ((HB4.out.2.1.later hb5).cell k).trans (wcells_at k (m + 1) l (by omega) (by omega))
                have e0 : wr.cell? ⟨ga, oa + j * 3, none⟩ = some (.int .i64 x.n) := ((Bt HB4.out.2.2 hb5).cell hga).trans HX.out.1
                have hsc := HA1.out.1 (k : Int)
                obtain ⟨sk, hsk⟩ : ∃ sk, sk = scoreF l (k : Int) := ⟨_, rfl⟩
                have ho := order_self sk (hsk ▸ goodL_score hG k)
                rw [← hsk] at d0 hsc
                obtain ⟨sk', hsk'⟩ : ∃ sk', sk' = scoreF l' (k : Int) := ⟨_, rfl⟩
                rw [← hsk'] at hsc
                have HSK := Lib.hid hsk'
                clear hsk hsk' hkm hb5
                cases hE : (fe != 0)
                · have hf0 : fe = 0 := by simpa using hE
                  cases hN : ((k : Int) != x.n)
                  · clear hsc ho d0
                    go_wp2_with fail
                    go_quiet ((go_at_call 32; exact quiet_same (score_is _ g l' k HSK.out.symm _ (HP5.out.later (BdN (B0 wr) _)))))
                    go_wp2_with fail
                    go_roundw
                    case rel => exact ⟨k + 1, by omega, by go_num, BdN HB5.out nq⟩
                    case measure => simp [intOf]; omega
                  · have hs := hsc (.inr (by simpa using hN))
                    clear hsc
                    subst hs
                    go_wp2_with fail
                    go_quiet ((go_at_call 32; exact quiet_same (score_is _ g l' k HSK.out.symm _ (HP5.out.later (BdN (B0 wr) _)))))
                    go_wp2_with fail
                    go_roundw
                    case rel => exact ⟨k + 1, by omega, by go_num, BdN HB5.out nq⟩
                    case measure => simp [intOf]; omega
                · have hs := hsc (.inl (by simpa using hE))
                  clear hsc
                  subst hs
                  go_wp2_with fail
                  go_quiet ((go_at_call 32; exact quiet_same (score_is _ g l' k HSK.out.symm _ (HP5.out.later (BdN (B0 wr) _)))))
                  go_wp2_with fail
                  go_roundw
                  case rel => exact ⟨k + 1, by omega, by go_num, BdN HB5.out nq⟩
                  case measure => simp [intOf]; omega
              · obtain rfl : k = m + 1 := by omega
                have hkm' : ¬ ((m + 1 : Nat) : Int) ≤ (m : Int) := by omega
                go_wp2_with fail
                go_roundw
                case rel => exact ⟨j + 1, l', by omega, by go_num, HP5.out, HA1.out.2.2, HA1.out.2.1, Bt HB4.out.2.2 HB5.out⟩
                case measure => simp [intOf]; omega
    · have hend : ¬ ((j : Int) < (rs.length : Int)) ∨ ¬ ((j : Int) < 100) := by omega
      by_cases hjl : (j : Int) < (rs.length : Int)
      · have h100 : ¬ ((j : Int) < 100) := by omega
        go_wp2_with fail
        go_ret
        exact ⟨rfl, hbr⟩
      · go_wp2_with fail
        go_ret
        exact ⟨rfl, hbr⟩

theorem relayApart_walk {H : Type} {enc : TypeId × Value → H} (W : World) (r0 : Int) (w0 : (Lit.int .i64 r0).wf = true) {base : Nat} {sp : Nat → Bool} {held : Bool} {v : Value} {d : DataW H} {p : List MemPlace} (hv : Value.okWide Try.prog W .any base 48 v) (ht : DataW.Trod enc Try.prog W 0 sp held 48 v d p)
    (hz : ∀ n ∈ d.weights Try.prog 48, n ≤ reachBytes) :
    Calls Try.prog 7 #[.int .i64 r0, v] W fun e w' => e = .returned (.bool true) ∧ Below W.heap.size W w' := by
  obtain ⟨A, c, l, rfl, hl⟩ := open_reports hv ht
  exact relayApart_list W r0 A c l hl
end Go.Proofs.Ytdnbbjhickjnmaa
