/- The statement LaneDeeds: its walk. -/
import Derived.Test.YtekedgokmmkplaaH8
namespace Go.Proofs.Ytekedgokmmkplaa
open Go.RowKit Go.WideShapes Go.ChangeShapes
set_option maxRecDepth 20000
set_option linter.unusedVariables false
set_option linter.unusedSimpArgs false

set_option maxHeartbeats 8000000 in
theorem laneDeeds_list (W : World) (A : Option Addr) (c : Nat) (ls : List De) (hls : DesRd W A c ls) :
    Calls Try.prog 3 #[.slice A ls.length c] W fun e w' => e = .returned (.bool true) ∧ Below W.heap.size W w' := by
  have hcap := hls.cap
  have hmost := hls.most
  have HR := Lib.hid hls
  clear hls
  go_enter Try.func3, Try.ntmps3
  go_wp2_with fail
  refine (new_any W).mono ?_
  rintro e w1 ⟨rfl, hb1, hr1⟩
  go_wp2_with fail
  refine (rlnew_any _).mono ?_
  rintro e w2 ⟨rfl, hb2, hr2⟩
  go_wp2_with fail
  refine (new_any _).mono ?_
  rintro e w3 ⟨rfl, hb3, hr3⟩
  have l1 := hr1.lt _ rfl
  have l2 := hr2.lt _ rfl
  have l3 := hr3.lt _ rfl
  have lb1 := hb1.size
  have lb2 := hb2.size
  have lb3 := hb3.size
  have HT0 : Hid (Tri W.heap.size No w3 W.heap.size [] 0 w1.heap.size [] 0 w2.heap.size) := Lib.hid ⟨by omega, fun i h => h.elim, _, _, _, _, _, fun i hi => ⟨by omega, id⟩, fun i hi => ⟨by omega, id⟩, fun i hi => ⟨by omega, id⟩, fun i hi hj => by omega, fun i hi hj => by omega, fun i hi hj => by omega, (hr1.below hb2).below hb3, hr2.below hb3, hr3⟩
  have HW0 := Lib.hid (Bt (Bt hb1 hb2) hb3)
  clear hb1 hb2 hb3 hr1 hr2 hr3
  obtain ⟨a, ha⟩ : ∃ a, a = W.heap.size := ⟨_, rfl⟩
  obtain ⟨b, hb⟩ : ∃ b, b = w1.heap.size := ⟨_, rfl⟩
  obtain ⟨o, ho⟩ : ∃ o, o = w2.heap.size := ⟨_, rfl⟩
  have HT1 : Hid (Tri W.heap.size No w3 a [] 0 b [] 0 o) := Lib.hid (by rw [ha, hb, ho]; exact HT0.out)
  rw [← ha, ← hb, ← ho]
  clear HT0 ha hb ho l1 l2 l3 lb1 lb2 lb3
  go_wp2_with fail
  go_loopw [6] (fun i wr => ∃ (j : Nat) (ds : List Dg) (sd : Int), j ≤ ls.length ∧ j ≤ 60 ∧ i = .int .i64 j ∧ ds.length ≤ j ∧ (∀ d ∈ ds, d.bs.length ≤ 140737488355328) ∧ 0 ≤ sd ∧ sd < 9223372036854775808 ∧ Tri W.heap.size No wr a ds sd b ds sd o ∧ Below W.heap.size W wr) (fun i _ => ls.length - (intOf i).toNat)
  case atStart => exact ⟨0, [], 0, Nat.zero_le _, by omega, rfl, Nat.le_refl _, by simp, by omega, by omega, HT1.out, HW0.out⟩
  case round =>
    obtain ⟨j, ds, sd, hj, hj1, rfl, hdl, hds, s0, s1, ht, hbw⟩ := hrel
    obtain ⟨wo, rfl⟩ : ∃ wo, wo = wr := ⟨_, rfl⟩
    have HDS := Lib.hid hds
    have HT := Lib.hid ht
    have HWO := Lib.hid hbw
    clear hds ht hbw HT1 HW0
    by_cases hlt : j < ls.length ∧ j < 60
    · obtain ⟨hlt, h100⟩ := hlt
      have hlt' : (j : Int) < (ls.length : Int) := by omega
      have h100' : (j : Int) < 60 := by omega
      have hj0 : (0 : Int) ≤ (j : Int) := by omega
      obtain ⟨ga, oa, hA, hga, hx⟩ := HR.out.at_ j hlt
      subst hA
      generalize ls[j] = x at hx
      obtain ⟨⟨hx0, hx1, hx2, hx3⟩, d0, d1, d2, d3, d4⟩ := hx
      obtain ⟨kind, n, f, t, xA, xc, bs⟩ := x
      simp only at hx0 hx1 hx2 hx3 d0 d1 d2 d3 d4
      have HX := Lib.hid hx3
      have hn := hx1.2
      replace d0 := (HWO.out.cell (p := ⟨ga, oa + j * 5, none⟩) hga).trans d0
      replace d1 := (HWO.out.cell (p := ⟨ga, oa + j * 5 + 1, none⟩) hga).trans d1
      replace d2 := (HWO.out.cell (p := ⟨ga, oa + j * 5 + 2, none⟩) hga).trans d2
      replace d3 := (HWO.out.cell (p := ⟨ga, oa + j * 5 + 3, none⟩) hga).trans d3
      replace d4 := (HWO.out.cell (p := ⟨ga, oa + j * 5 + 4, none⟩) hga).trans d4
      clear hx0 hx1 hx3
      go_wp2_with fail
      refine (deed_any (fun i => i < W.heap.size) W.heap.size a b o ds sd kind n f t xA xc bs _ HT.out (HX.out.below HWO.out (fun i hi => hi)) (fun i hi => hi) (by omega) HDS.out s0 s1 hx2 hn).mono ?_
      rintro e w4 ⟨rfl, ds', sd', ht4, hl4, hd4, s2, s3, hm4⟩
      have HT4 := Lib.hid ht4
      have HD4 := Lib.hid hd4
      have HW4 := Lib.hid (Bm HWO.out hm4 (fun i h => h))
      clear ht4 hd4 hm4 d0 d1 d2 d3 d4
      go_wp2_with fail
      refine (call_o (V := fun _ => .int .i64 (cutE j)) (D := fun dd => dd) (E := fun so => cutS so j) HT4.out (fun S dd so h => cut_any S o dd so j _ h)).mono ?_
      rintro e w5 ⟨⟨v, rfl, x, rfl⟩, ht5, hm5⟩
      have HT5 := Lib.hid ht5
      have HW5 := Lib.hid (Bm HW4.out hm5 (fun i h => h.1))
      clear ht5 hm5
      go_wp2_with fail
      refine (call_o (V := fun dd => .int .i64 (putE dd 1 2)) (D := fun dd => putL dd 1 2 []) (E := fun so => so) HT5.out (fun S dd so h => put_any S No o dd so 1 2 none 0 [] _ h (Rd.nil _ No _) (fun i h => h.elim) (by simp))).mono ?_
      rintro e w6 ⟨⟨v, rfl, x, rfl⟩, ht6, hm6⟩
      have HT6 := Lib.hid ht6
      have HW6 := Lib.hid (Bm HW5.out hm6 (fun i h => h.1))
      clear ht6 hm6
      go_wp2_with fail
      go_roundw
      case rel => exact ⟨j + 1, ds', sd', by omega, by omega, by go_num, by omega, HD4.out, s2, s3, HT6.out, HW6.out⟩
      case measure => simp [intOf]; omega
    · have hend : (¬ (j : Int) < (ls.length : Int)) ∨ ((j : Int) < (ls.length : Int) ∧ ¬ (j : Int) < 60) := by omega
      clear hlt
      rcases hend with hend | ⟨hend, hend2⟩
      all_goals
        go_wp2_with fail
        go_loopw [7] (fun i wr => ∃ m : Int, -1 ≤ m ∧ m ≤ (ds.length : Int) + 1 ∧ i = .int .i64 m ∧ Tri W.heap.size No wr a ds sd b ds sd o ∧ Below W.heap.size W wr) (fun i _ => ((ds.length : Int) + 1 - intOf i).toNat)
        case atStart => exact ⟨-1, by omega, by omega, rfl, HT.out, HWO.out⟩
        case round =>
          obtain ⟨m, hm1, hm2, rfl, ht, hbw⟩ := hrel
          obtain ⟨wv, rfl⟩ : ∃ wv, wv = wr := ⟨_, rfl⟩
          have HTV := Lib.hid ht
          have HWV := Lib.hid hbw
          obtain ⟨bA, bc, hbc⟩ := tri_len0 ht
          have lb := tri_b_lt ht
          clear ht hbw
          by_cases hm : m ≤ (ds.length : Int)
          · obtain ⟨d, hd⟩ : ∃ d, d = seeD ds m := ⟨_, rfl⟩
            obtain ⟨te, hte⟩ : ∃ te, te = seeE ds m := ⟨_, rfl⟩
            have hne : (te != te) = false := by simp
            have HDD := Lib.hid (And.intro hd hte)
            go_wp2_with fail
            refine (see_a m HTV.out).mono ?_
            rintro e w5 ⟨A5, c5, rfl, HF5⟩
            rw [← hd, ← hte]
            rw [← hd] at HF5
            have HFF5 := Lib.hid HF5
            have HT6 := Lib.hid (HTV.out.below HF5.kept)
            clear HF5 hd hte
            go_wp2_with fail
            refine (see_b m (HT6.out.below (Ba (B0 w5) (.cells #[.int .i64 d.f, .int .i64 d.t, .slice A5 d.bs.length c5] 30))) (by omega)).mono ?_
            rintro e w6 ⟨A6, c6, rfl, HF6⟩
            rw [← HDD.out.1, ← HDD.out.2]
            rw [← HDD.out.1] at HF6
            have hx6 := (Blk.new w5 30 #[.int .i64 d.f, .int .i64 d.t, .slice A5 d.bs.length c5]).later HF6.kept
            obtain ⟨f0, f1, f2, _⟩ := blk3 hx6
            have lx6 := hx6.lt
            have HFF6 := Lib.hid HF6
            have HK56 := Lib.hid (Bt (Ba (B0 w5) (.cells #[.int .i64 d.f, .int .i64 d.t, .slice A5 d.bs.length c5] 30)) HF6.kept)
            clear HF6 hx6
            go_wp2_with fail
            refine (same_any (fun i => i < w5.heap.size) (fun i => i < w6.heap.size) d.f d.t d.f d.t A5 A6 c5 c6 d.bs d.bs _ (HFF5.out.rd.below (Ba HK56.out _) (fun i hi => hi)) (fun i hi => by have := HK56.out.size; simp; omega) (HFF6.out.rd1 _) (fun i hi => by simp; omega)).mono ?_
            rintro e w7 ⟨rfl, hb7⟩
            rw [sameD_refl]
            have HK57 := Lib.hid (Bt HFF5.out.kept (Bt (Ba HK56.out (.cells #[.int .i64 d.f, .int .i64 d.t, .slice A6 d.bs.length c6] 30)) hb7))
            have HT7 := Lib.hid (HTV.out.below HK57.out)
            have HW7 := Lib.hid (Bt HWV.out HK57.out)
            clear hb7 f0 f1 f2 hbc
            go_wp2_with fail
            go_roundw
            case rel => exact ⟨m + 1, by omega, by omega, by first | rfl | trivial, HT7.out, HW7.out⟩
            case measure => simp [intOf]; omega
          · have hmm : ¬ m ≤ (ds.length : Int) := hm
            go_wp2_with fail
            go_loopw [12] (fun i wr => ∃ m : Int, -1 ≤ m ∧ m ≤ 31 ∧ i = .int .i64 m ∧ Tri W.heap.size No wr a ds sd b ds sd o ∧ Below W.heap.size W wr) (fun i _ => (31 - intOf i).toNat)
            case atStart => exact ⟨-1, by omega, by omega, rfl, HTV.out, HWV.out⟩
            case round =>
              obtain ⟨x, hx1, hx2, rfl, ht, hbw⟩ := hrel
              obtain ⟨wz, rfl⟩ : ∃ wz, wz = wr := ⟨_, rfl⟩
              have HTZ := Lib.hid ht
              have HWZ := Lib.hid hbw
              clear ht hbw
              by_cases hx : x < 31
              · go_wp2_with fail
                go_loopw [13] (fun i wr => ∃ m : Int, -1 ≤ m ∧ m ≤ 31 ∧ i = .int .i64 m ∧ Tri W.heap.size No wr a ds sd b ds sd o ∧ Below W.heap.size W wr) (fun i _ => (31 - intOf i).toNat)
                case atStart => exact ⟨-1, by omega, by omega, rfl, HTZ.out, HWZ.out⟩
                case round =>
                  obtain ⟨y, hy1, hy2, rfl, ht, hbw⟩ := hrel
                  obtain ⟨wy, rfl⟩ : ∃ wy, wy = wr := ⟨_, rfl⟩
                  have HTY := Lib.hid ht
                  have HWY := Lib.hid hbw
                  clear ht hbw
                  by_cases hy : y < 31
                  · obtain ⟨r, hr⟩ : ∃ r, r = reachF sd x y := ⟨_, rfl⟩
                    have hrr : (r != r) = false := by simp
                    have HRR := Lib.hid hr
                    clear hr
                    go_wp2_with fail
                    refine (treach_a x y HTY.out s0 s1).mono ?_
                    rintro e wq ⟨rfl, nq⟩
                    rw [← HRR.out]
                    have hbq : Below wy.heap.size wy wq := by obtain ⟨n, rfl⟩ := nq; exact BdN (B0 wy) n
                    have HTQ := Lib.hid (HTY.out.below hbq)
                    have HWQ := Lib.hid (Bt HWY.out hbq)
                    clear nq hbq
                    go_wp2_with fail
                    refine (treach_b x y HTQ.out).mono ?_
                    rintro e wp ⟨rfl, np⟩
                    rw [← HRR.out]
                    have hbp : Below wq.heap.size wq wp := by obtain ⟨n, rfl⟩ := np; exact BdN (B0 wq) n
                    have HTP := Lib.hid (HTQ.out.below hbp)
                    have HWP := Lib.hid (Bt HWQ.out hbp)
                    clear np hbp
                    go_wp2_with fail
                    go_roundw
                    case rel => exact ⟨y + 1, by omega, by omega, by first | rfl | trivial, HTP.out, HWP.out⟩
                    case measure => simp [intOf]; omega
                  · obtain rfl : y = 31 := by omega
                    go_wp2_with fail
                    go_roundw
                    case rel => exact ⟨x + 1, by omega, by omega, by first | rfl | trivial, HTY.out, HWY.out⟩
                    case measure => simp [intOf]; omega
              · obtain rfl : x = 31 := by omega
                go_wp2_with fail
                refine (works_any _).mono ?_
                rintro e w5 ⟨rfl, hb5⟩
                go_wp2_with fail
                go_ret
                exact ⟨rfl, Bt HWZ.out hb5⟩

theorem laneDeeds_walk {H : Type} {enc : TypeId × Value → H} (W : World) {base : Nat} {sp : Nat → Bool} {held : Bool} {v : Value} {d : DataW H} {p : List MemPlace} (hv : Value.okWide Try.prog W .any base 22 v) (ht : DataW.Trod enc Try.prog W 0 sp held 22 v d p)
    (hz : ∀ n ∈ d.weights Try.prog 22, n ≤ reachBytes) :
    Calls Try.prog 3 #[v] W fun e w' => e = .returned (.bool true) ∧ Below W.heap.size W w' := by
  obtain ⟨A, c, l, rfl, hl⟩ := open_deeds hv ht hz
  exact laneDeeds_list W A c l hl
end Go.Proofs.Ytekedgokmmkplaa
