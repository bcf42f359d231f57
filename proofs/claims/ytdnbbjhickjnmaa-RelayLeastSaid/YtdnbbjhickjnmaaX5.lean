/- The statement RelayLeast: its walk. -/
import Derived.Test.YtdnbbjhickjnmaaX4
import Derived.Test.YtdnbbjhickjnmaaF3
namespace Go.Proofs.Ytdnbbjhickjnmaa
open Go.RowKit Go.WideShapes Go.ChangeShapes
set_option maxRecDepth 20000
set_option linter.unusedVariables false
set_option linter.unusedSimpArgs false

theorem bestAt_le (l : Pth) : ∀ n, bestAt l n ≤ n
  | 0 => Nat.le_refl _
  | n + 1 => by
    have := bestAt_le l n
    unfold bestAt
    split <;> omega
theorem best_least {l : Pth} (hG : GoodL l) : ∀ n k, k < n → key (sc l (bestAt l n)) ≤ key (sc l k) ∧ (k < bestAt l n → key (sc l (bestAt l n)) < key (sc l k))
  | 0, k, hk => absurd hk (by omega)
  | n + 1, k, hk => by
    have ih := best_least hG n
    have hle := bestAt_le l n
    have hlt := lt_key (goodL_at hG n) (goodL_at hG (bestAt l n))
    unfold bestAt
    split
    · rename_i hb
      have hb' : key (sc l n) < key (sc l (bestAt l n)) := of_decide_eq_true (hlt.symm.trans hb)
      rcases Nat.lt_or_ge k n with h | h
      · have := ih k h
        exact ⟨by omega, fun _ => by omega⟩
      · obtain rfl : k = n := by omega
        exact ⟨Nat.le_refl _, fun h => absurd h (by omega)⟩
    · rename_i hb
      have hb' : ¬ key (sc l n) < key (sc l (bestAt l n)) := fun h => hb (hlt.trans (decide_eq_true h))
      rcases Nat.lt_or_ge k n with h | h
      · exact ih k h
      · obtain rfl : k = n := by omega
        exact ⟨by omega, fun h => absurd h (by omega)⟩
theorem score_sc (l : Pth) (k : Nat) (hk : k < l.length) : scoreF l k = sc l k := by
  unfold scoreF
  rw [if_pos (by simp [pin]; omega), Int.toNat_natCast]
  rfl

set_option maxHeartbeats 8000000 in
theorem relayLeast_list (W : World) (r0 : Int) (A : Option Addr) (c : Nat) (rs : List Rp) (hrs : RpsRd W A c rs) :
    Calls Try.prog 6 #[.int .i64 r0, .slice A rs.length c] W fun e w' => e = .returned (.bool true) ∧ Below W.heap.size W w' := by
  have hm := bringF_lt r0 4 (by omega)
  obtain ⟨m, hM⟩ : ∃ m : Nat, bringF r0 4 = m := ⟨(bringF r0 4).toNat, by omega⟩
  rw [hM] at hm
  have hm1 : (m : Int) ≤ 3 := by omega
  have HM := Lib.hid hM
  have hcap := hrs.cap
  have hmost := hrs.most
  have HR := Lib.hid hrs
  have hsf := store_float
  clear hm hM hrs
  go_enter Try.func6, Try.ntmps6
  go_wp2_with fail
  refine (works_any _).mono ?_
  rintro e w1 ⟨rfl, hb1⟩
  go_wp2_with fail
  refine (bring_any r0 4 _ (by omega)).mono ?_
  rintro e w' ⟨rfl, rfl⟩
  rw [HM.out]
  go_wp2_with fail
  refine (begin_any m (by omega) _).mono ?_
  rintro e w2 ⟨rfl, hb2, hp, hz⟩
  have HP := Lib.hid hp
  have HW2 := Lib.hid (Bt hb1 hb2)
  have lg := hb1.size
  clear hp hb2 hb1
  obtain ⟨g, hg⟩ : ∃ g, g = w1.heap.size := ⟨_, rfl⟩
  rw [← hg] at HP hz lg ⊢
  clear hg
  go_wp2_with fail
  go_loopw [7] (fun i wr => ∃ j : Nat, ∃ l : Pth, j ≤ rs.length ∧ i = .int .i64 j ∧ PathsAt wr (g + 1) g l ∧ l.length = m + 1 ∧ GoodL l ∧ Below W.heap.size W wr) (fun i _ => rs.length - (intOf i).toNat)
  case atStart => exact ⟨0, _, Nat.zero_le _, rfl, HP.out, by simp, goodL_new _, HW2.out⟩
  case round =>
    obtain ⟨j, l, hj, rfl, hp, hll, hG, hbr⟩ := hrel
    obtain ⟨wo, rfl⟩ : ∃ wo, wo = wr := ⟨_, rfl⟩
    by_cases hlt : j < rs.length ∧ j < 100
    · obtain ⟨hlt, h100⟩ := hlt
      have hlt' : (j : Int) < (rs.length : Int) := by omega
      have h100' : (j : Int) < 100 := by omega
      have hj0 : (0 : Int) ≤ (j : Int) := by omega
      obtain ⟨ga, oa, hA, hga, hx⟩ := HR.out.at_ j hlt
      obtain ⟨x, hxe⟩ : ∃ x, x = rs[j] := ⟨_, rfl⟩
      rw [← hxe] at hx
      subst hA
      obtain ⟨hxt, x0, x1, x2⟩ := hx
      have HX := Lib.hid (And.intro x0 (And.intro x1 x2))
      have HPl := Lib.hid hp
      have HBr := Lib.hid hbr
      have lp := hp.1.lt
      have lgr := hp.2.1.lt
      have lr := hbr.size
      clear hxe x0 x1 x2 hp hbr
      have hx0 : wo.cell? ⟨ga, oa + j * 3, none⟩ = some (.int .i64 x.n) := (HBr.out.cell hga).trans HX.out.1
      have hx1 : wo.cell? ⟨ga, oa + j * 3 + 1, none⟩ = some (.bool x.lost) := (HBr.out.cell hga).trans HX.out.2.1
      have hx2 : wo.cell? ⟨ga, oa + j * 3 + 2, none⟩ = some (.float .f64 x.t) := (HBr.out.cell hga).trans HX.out.2.2
      obtain ⟨l', hl'⟩ : ∃ l', l' = doneL l x := ⟨_, rfl⟩
      have hG' : GoodL l' := hl' ▸ done_good hG x hxt
      have hll' : l'.length = m + 1 := by rw [hl', done_length, hll]
      have hBL := best_least hG' l'.length
      have hBlt := bestAt_lt l' (by omega) l'.length (Nat.le_refl _)
      obtain ⟨bn, hbn⟩ : ∃ bn, bn = bestAt l' l'.length := ⟨_, rfl⟩
      rw [← hbn] at hBL hBlt
      have HBN := Lib.hid (show bestF l' = bn from hbn.symm)
      rw [hll'] at hBlt
      have hb0 : (0 : Int) ≤ (bn : Int) := by omega
      have hb1 : (bn : Int) ≤ (m : Int) := by omega
      have hb2 : ¬ (bn : Int) < 0 := by omega
      have hb3 : ¬ (m : Int) < (bn : Int) := by omega
      have hb4 : ¬ m < bn := by omega
      have hb5 : decide ((m : Int) < (bn : Int)) = false := decide_eq_false hb3
      have hb6 : decide ((bn : Int) < 0) = false := decide_eq_false hb2
      have HA1 := Lib.hid (And.intro hBL (And.intro hG' hll'))
      clear hbn hBL hG' hll'
      cases hlost : x.lost
      · skip
        have el : repL l x.n x.t = l' := by rw [hl']; simp [doneL, hlost]
        have HE := Lib.hid el
        clear el hl'
        rw [hlost] at hx1
        go_wp2_with fail
        go_region_held3 (fun w' => w'.cell? ⟨ga, oa + j * 3, none⟩ = some (.int .i64 x.n) ∧ w'.cell? ⟨ga, oa + j * 3 + 2, none⟩ = some (.float .f64 x.t)) (first | go_keep | (refine ⟨hm4.cell hx0 (show ¬ ga = g by omega), hm4.cell hx2 (show ¬ ga = g by omega)⟩)) (first | (go_at_call 30; refine (report_any _ g l x.n x.t hxt hG _ (HPl.out.later (Bd (B0 wo)))).mono ?_; rintro e w4 ⟨rfl, hm4, hp4⟩; rw [HE.out] at hp4; replace hm4 : Mod (fun k => k = g) wo w4 := (Mod.refl (fun k => k = g) wo).drew.trans hm4 (fun i hi => .inl hi)))
        have HP4 := Lib.hid hp4
        have HB4 := Lib.hid (Bm HBr.out hm4 (fun i hi => by omega))
        clear hp4 hm4 hx0 hx1 hx2 HPl
        go_wp2_with fail
        refine (best_any _ g l' _ HP4.out).mono ?_
        rintro e w5 ⟨rfl, hb5⟩
        rw [HBN.out]
        have HP5 := Lib.hid (HP4.out.later hb5)
        have HB5 := Lib.hid (Bt HB4.out hb5)
        clear hb5 HP4 HB4
        go_wp2_with fail
        go_loopw [9] (fun i wr => ∃ k : Nat, k ≤ m + 1 ∧ i = .int .i64 k ∧ Below w5.heap.size w5 wr) (fun i _ => m + 1 - (intOf i).toNat)
        case atStart => exact ⟨0, Nat.zero_le _, rfl, B0 w5⟩
        case round =>
          obtain ⟨k, hk, rfl, hb6⟩ := hrel
          have HP6 := Lib.hid (HP5.out.later hb6)
          have HB6 := Lib.hid hb6
          clear hb6
          by_cases hkm : k < m + 1
          · have hkm' : (k : Int) ≤ (m : Int) := by omega
            have hk0 : (0 : Int) ≤ (k : Int) := by omega
            obtain ⟨hle, hlt⟩ := HA1.out.1 k (by rw [HA1.out.2.2]; omega)
            rw [← score_sc l' k (by rw [HA1.out.2.2]; omega), ← score_sc l' bn (by rw [HA1.out.2.2]; omega)] at hle hlt
            have g1 := goodL_score HA1.out.2.1 (k : Int)
            have g2 := goodL_score HA1.out.2.1 (bn : Int)
            obtain ⟨sk, hsk⟩ : ∃ sk, sk = scoreF l' (k : Int) := ⟨_, rfl⟩
            obtain ⟨sb, hsb⟩ : ∃ sb, sb = scoreF l' (bn : Int) := ⟨_, rfl⟩
            rw [← hsk] at hle hlt g1
            rw [← hsb] at hle hlt g2
            have o1 := ge_zero g1
            have o2 : (FloatKind.f64.format.order sk sb == some .lt) = false := (lt_key g1 g2).trans (decide_eq_false (by omega))
            have HSK := Lib.hid (And.intro hsk.symm hsb.symm)
            clear hsk hsb
            by_cases hkb : k < bn
            · have hkb' : (k : Int) < (bn : Int) := by omega
              have o3 : (FloatKind.f64.format.order sk sb == some .lt || FloatKind.f64.format.order sk sb == some .eq) = false := (le_key g1 g2).trans (decide_eq_false (by have := hlt hkb; omega))
              clear hle hlt g1 g2
              rw [o2, Bool.false_or] at o3
              go_wp2_with fail
              refine (score_is _ g l' k HSK.out.1 _ HP6.out).mono ?_
              rintro e w' ⟨rfl, rfl⟩
              go_wp2_with fail
              refine (score_is _ g l' bn HSK.out.2 _ HP6.out).mono ?_
              rintro e w' ⟨rfl, rfl⟩
              go_wp2_with fail
              refine (score_is _ g l' bn HSK.out.2 _ HP6.out).mono ?_
              rintro e w' ⟨rfl, rfl⟩
              go_wp2_with fail
              go_roundw
              case rel => exact ⟨k + 1, by omega, by go_num, HB6.out⟩
              case measure => simp [intOf]; omega
            · have hkb' : ¬ (k : Int) < (bn : Int) := by omega
              clear hle hlt g1 g2
              go_wp2_with fail
              refine (score_is _ g l' k HSK.out.1 _ HP6.out).mono ?_
              rintro e w' ⟨rfl, rfl⟩
              go_wp2_with fail
              refine (score_is _ g l' bn HSK.out.2 _ HP6.out).mono ?_
              rintro e w' ⟨rfl, rfl⟩
              go_wp2_with fail
              go_roundw
              case rel => exact ⟨k + 1, by omega, by go_num, HB6.out⟩
              case measure => simp [intOf]; omega
          · obtain rfl : k = m + 1 := by omega
            have hkm' : ¬ ((m + 1 : Nat) : Int) ≤ (m : Int) := by omega
            go_wp2_with fail
            go_roundw
            case rel => exact ⟨j + 1, l', by omega, by go_num, HP6.out, HA1.out.2.2, HA1.out.2.1, Bt HB5.out HB6.out⟩
            case measure => simp [intOf]; omega
      · skip
        have el : lostL l x.n = l' := by rw [hl']; simp [doneL, hlost]
        have HE := Lib.hid el
        clear el hl'
        rw [hlost] at hx1
        go_wp2_with fail
        refine (lost_any _ g l x.n _ HPl.out).mono ?_
        rintro e w4 ⟨rfl, hm4, hp4⟩
        rw [HE.out] at hp4
        have HP4 := Lib.hid hp4
        have HB4 := Lib.hid (Bm HBr.out hm4 (fun i hi => by omega))
        clear hp4 hm4 hx0 hx1 hx2 HPl
        go_wp2_with fail
        refine (best_any _ g l' _ HP4.out).mono ?_
        rintro e w5 ⟨rfl, hb5⟩
        rw [HBN.out]
        have HP5 := Lib.hid (HP4.out.later hb5)
        have HB5 := Lib.hid (Bt HB4.out hb5)
        clear hb5 HP4 HB4
        go_wp2_with fail
        go_loopw [9] (fun i wr => ∃ k : Nat, k ≤ m + 1 ∧ i = .int .i64 k ∧ Below w5.heap.size w5 wr) (fun i _ => m + 1 - (intOf i).toNat)
        case atStart => exact ⟨0, Nat.zero_le _, rfl, B0 w5⟩
        case round =>
          obtain ⟨k, hk, rfl, hb6⟩ := hrel
          have HP6 := Lib.hid (HP5.out.later hb6)
          have HB6 := Lib.hid hb6
          clear hb6
          by_cases hkm : k < m + 1
          · have hkm' : (k : Int) ≤ (m : Int) := by omega
            have hk0 : (0 : Int) ≤ (k : Int) := by omega
            obtain ⟨hle, hlt⟩ := HA1.out.1 k (by rw [HA1.out.2.2]; omega)
            rw [← score_sc l' k (by rw [HA1.out.2.2]; omega), ← score_sc l' bn (by rw [HA1.out.2.2]; omega)] at hle hlt
            have g1 := goodL_score HA1.out.2.1 (k : Int)
            have g2 := goodL_score HA1.out.2.1 (bn : Int)
            obtain ⟨sk, hsk⟩ : ∃ sk, sk = scoreF l' (k : Int) := ⟨_, rfl⟩
            obtain ⟨sb, hsb⟩ : ∃ sb, sb = scoreF l' (bn : Int) := ⟨_, rfl⟩
            rw [← hsk] at hle hlt g1
            rw [← hsb] at hle hlt g2
            have o1 := ge_zero g1
            have o2 : (FloatKind.f64.format.order sk sb == some .lt) = false := (lt_key g1 g2).trans (decide_eq_false (by omega))
            have HSK := Lib.hid (And.intro hsk.symm hsb.symm)
            clear hsk hsb
            by_cases hkb : k < bn
            · have hkb' : (k : Int) < (bn : Int) := by omega
              have o3 : (FloatKind.f64.format.order sk sb == some .lt || FloatKind.f64.format.order sk sb == some .eq) = false := (le_key g1 g2).trans (decide_eq_false (by have := hlt hkb; omega))
              clear hle hlt g1 g2
              rw [o2, Bool.false_or] at o3
              go_wp2_with fail
              refine (score_is _ g l' k HSK.out.1 _ HP6.out).mono ?_
              rintro e w' ⟨rfl, rfl⟩
              go_wp2_with fail
              refine (score_is _ g l' bn HSK.out.2 _ HP6.out).mono ?_
              rintro e w' ⟨rfl, rfl⟩
              go_wp2_with fail
              refine (score_is _ g l' bn HSK.out.2 _ HP6.out).mono ?_
              rintro e w' ⟨rfl, rfl⟩
              go_wp2_with fail
              go_roundw
              case rel => exact ⟨k + 1, by omega, by go_num, HB6.out⟩
              case measure => simp [intOf]; omega
            · have hkb' : ¬ (k : Int) < (bn : Int) := by omega
              clear hle hlt g1 g2
              go_wp2_with fail
              refine (score_is _ g l' k HSK.out.1 _ HP6.out).mono ?_
              rintro e w' ⟨rfl, rfl⟩
              go_wp2_with fail
              refine (score_is _ g l' bn HSK.out.2 _ HP6.out).mono ?_
              rintro e w' ⟨rfl, rfl⟩
              go_wp2_with fail
              go_roundw
              case rel => exact ⟨k + 1, by omega, by go_num, HB6.out⟩
              case measure => simp [intOf]; omega
          · obtain rfl : k = m + 1 := by omega
            have hkm' : ¬ ((m + 1 : Nat) : Int) ≤ (m : Int) := by omega
            go_wp2_with fail
            go_roundw
            case rel => exact ⟨j + 1, l', by omega, by go_num, HP6.out, HA1.out.2.2, HA1.out.2.1, Bt HB5.out HB6.out⟩
            case measure => simp [intOf]; omega
    · have hend : ¬ ((j : Int) < (rs.length : Int)) ∨ ¬ ((j : Int) < 100) := by omega
      by_cases hjl : (j : Int) < (rs.length : Int)
      · have h100 : ¬ ((j : Int) < 100) := by omega
        go_wp2_with fail
        go_ret
        exact ⟨rfl, hbr⟩
      · go_wp2_with fail
        go_ret
        exact ⟨rfl, hbr⟩

theorem relayLeast_walk {H : Type} {enc : TypeId × Value → H} (W : World) (r0 : Int) (w0 : (Lit.int .i64 r0).wf = true) {base : Nat} {sp : Nat → Bool} {held : Bool} {v : Value} {d : DataW H} {p : List MemPlace} (hv : Value.okWide Try.prog W .any base 48 v) (ht : DataW.Trod enc Try.prog W 0 sp held 48 v d p)
    (hz : ∀ n ∈ d.weights Try.prog 48, n ≤ reachBytes) :
    Calls Try.prog 6 #[.int .i64 r0, v] W fun e w' => e = .returned (.bool true) ∧ Below W.heap.size W w' := by
  obtain ⟨A, c, l, rfl, hl⟩ := open_reports hv ht
  exact relayLeast_list W r0 A c l hl
end Go.Proofs.Ytdnbbjhickjnmaa
