/- WireNests: its walk. -/
import Derived.Test.YtodijebpoipeiaaZ1
import Derived.Deep.Cut
import Derived.Deep.CutBlock
import Derived.Deep.CutRange
import Derived.Deep.RegionHeld3
namespace Go.Proofs.Ytodijebpoipeiaa
open Go.RowKit
set_option maxRecDepth 20000
set_option linter.unusedVariables false
set_option linter.unusedSimpArgs false

set_option maxHeartbeats 4000000 in
theorem nests_walk1 (W : World) (A : Option Addr) (c : Nat) (xs : List Int) (hxb : Byt xs) (hxl : xs.length ≤ 140737488351232) (hxr : Rd W (fun i => i < W.heap.size) 1 (.slice A xs.length c) xs.length (bts xs)) (Aa : Option Addr) (ca : Nat) (la : List Bs1) (hra : BssRd W Aa ca la) (Ab : Option Addr) (cb : Nat) (lb : List Bs1) (hrb : BssRd W Ab cb lb) :
    Calls Try.prog 8 #[.slice A xs.length c, .slice Aa la.length ca, .slice Ab lb.length cb] W fun e w' => e = .returned (.bool true) ∧ Below W.heap.size W w' := by
  have HA := Lib.hid hra
  have HBB := Lib.hid hrb
  have hla : la.length ≤ 9223372036854775807 := Nat.le_trans hra.cap hra.most
  have hlb : lb.length ≤ 9223372036854775807 := Nat.le_trans hrb.cap hrb.most
  have HB := Lib.hid hxb
  have HR := Lib.hid hxr
  have hcx := hxr.cap
  unfold maxLen at hcx
  obtain ⟨_, hcx1, hcx2⟩ := hcx
  clear hra hrb hxb hxr
  go_enter Try.func8, Try.ntmps8
  obtain ⟨n, hn⟩ : ∃ n : Nat, n = min (min la.length lb.length) 20 := ⟨_, rfl⟩
  have hm3 : ∀ w, Sem.run Try.prog (Builtin.min_ #[3, 3, 3] 3 #[.int .i64 la.length, .int .i64 lb.length, .int .i64 20]) w = .ok (.int .i64 n) w := fun w => min_three _ _ _ _ _ _ (by omega)
  have hna : n ≤ la.length ∧ n ≤ lb.length ∧ n ≤ 20 := by omega
  clear hn
  go_upto_region 3 with (go_at_call 25; refine (works_any W).mono ?_; rintro e w1 ⟨rfl, hb1⟩)
  go_cut [0] from 19 to 148 (fun v wx => v = .slice A (xs.take 300).length c ∧ Below W.heap.size W wx)
  case first =>
    go_wp2_with fail
    all_goals
      go_meet
      exact ⟨congrArg (fun n => Value.slice A n c) (by simp; omega), by assumption⟩
  case rest =>
    obtain ⟨rfl, hb1⟩ := hcut
    have hyl : (xs.take 300).length ≤ 300 := by simp; omega
    have hyb : Byt (xs.take 300) := HB.out.take 300
    have hyr : Rd W (fun i => i < W.heap.size) 1 (.slice A (xs.take 300).length c) (xs.take 300).length (bts (xs.take 300)) := rd_head _ (xs.drop 300) (by rw [List.take_append_drop]; exact HR.out)
    generalize xs.take 300 = ys at hyl hyb hyr ⊢
    have HYR := Lib.hid hyr
    have HYB := Lib.hid hyb
    have HB1 := Lib.hid hb1
    clear hyr hyb hb1
    go_wp2_with fail
    refine (copy_bytes _ _ ys wc (HYR.out.below HB1.out (fun i hi => hi)) (by omega)).mono ?_
    rintro e w2 ⟨A2, c2, rfl, hf⟩
    have HO2 := Lib.hid (own_mod hf.own (Mod.refl (fun _ => False) _) (fun _ _ h => h) HB1.out.size)
    have HB2 := Lib.hid (Bt HB1.out hf.kept)
    clear hf
    go_wp2_with fail
    go_loopw [8, 9] (fun al i wr => ∃ (k : Nat) (A' : Option Addr) (c' : Nat), k ≤ n ∧ al = .slice A' (nest ys la lb k).length c' ∧ i = .int .i64 k ∧ Below W.heap.size W wr ∧ Byt (nest ys la lb k) ∧ wr.ownsRow W.heap.size 5 1 (.slice A' (nest ys la lb k).length c') (nest ys la lb k).length (bts (nest ys la lb k))) (fun _ i _ => n - (intOf i).toNat)
    case atStart => exact ⟨0, A2, c2, Nat.zero_le _, rfl, rfl, HB2.out, HYB.out, HO2.out⟩
    case round =>
      obtain ⟨k, A', c', hk, rfl, rfl, hbW, hnb, hno⟩ := hrel
      have hnl := nest_len ys la lb hyl k
      have HNL := Lib.hid hnl
      have HNB := Lib.hid hnb
      have HNO := Lib.hid hno
      have HBW := Lib.hid hbW
      by_cases hlt : k < n
      · have hlt2 : (k : Int) < (n : Int) := by omega
        obtain ⟨ga, oa, rfl, hga, ha1, ha2, ha3, ha4⟩ := HA.out.at_ k (by omega)
        obtain ⟨gb, ob, rfl, hgb, hb1, hb2, hb3, hb4⟩ := HBB.out.at_ k (by omega)
        obtain ⟨x, hx⟩ : ∃ x, x = la[k] := ⟨_, rfl⟩
        obtain ⟨y, hy⟩ : ∃ y, y = lb[k] := ⟨_, rfl⟩
        rw [← hx] at ha1 ha2 ha3 ha4
        rw [← hy] at hb1 hb2 hb3 hb4
        have b0 := (hbW.cell (p := ⟨ga, oa + k, none⟩) hga).trans ha4
        have b1 := (hbW.cell (p := ⟨gb, ob + k, none⟩) hgb).trans hb4
        clear hnl hnb hno hbW
        obtain ⟨xa, hxa⟩ : ∃ xa, xa = x.bs.take 50 := ⟨_, rfl⟩
        obtain ⟨ya, hya⟩ : ∃ ya, ya = y.bs.take 50 := ⟨_, rfl⟩
        have hxal : xa.length ≤ 50 ∧ xa.length ≤ x.bs.length := by rw [hxa]; simp; omega
        have hyal : ya.length ≤ 50 ∧ ya.length ≤ y.bs.length := by rw [hya]; simp; omega
        have hma : (if (50 : Int) < (x.bs.length : Int) then (50 : Int) else (x.bs.length : Int)) = (xa.length : Int) := by rw [hxa, List.length_take]; split <;> omega
        have hmb : (if (50 : Int) < (y.bs.length : Int) then (50 : Int) else (y.bs.length : Int)) = (ya.length : Int) := by rw [hya, List.length_take]; split <;> omega
        have hxar : Rd W (fun i => i < W.heap.size) 1 (.slice x.A xa.length x.c) xa.length (bts xa) := by rw [hxa]; exact rd_head _ (x.bs.drop 50) (by rw [List.take_append_drop]; exact ha3)
        have hyar : Rd W (fun i => i < W.heap.size) 1 (.slice y.A ya.length y.c) ya.length (bts ya) := by rw [hya]; exact rd_head _ (y.bs.drop 50) (by rw [List.take_append_drop]; exact hb3)
        have cpa := ha3.cap.2
        have cpb := hb3.cap.2
        unfold maxLen at cpa cpb
        have HXA := Lib.hid hxar
        have HYA := Lib.hid hyar
        have HEX := Lib.hid hxa
        have HEY := Lib.hid hya
        have HBX := Lib.hid (show Byt xa by rw [hxa]; exact ha1.take 50)
        have HBY := Lib.hid (show Byt ya by rw [hya]; exact hb1.take 50)
        have hxc : (xa.length : Int) ≤ (x.c : Int) := by omega
        have hyc : (ya.length : Int) ≤ (y.c : Int) := by omega
        have hxc' : xa.length ≤ x.c := by omega
        have hyc' : ya.length ≤ y.c := by omega
        have hkl : (k : Int) < (la.length : Int) := by omega
        have hkl2 : (k : Int) < (lb.length : Int) := by omega
        have hka : k < la.length := by omega
        have hkb : k < lb.length := by omega
        have HEQ := Lib.hid (And.intro hx hy)
        clear hxar hyar hxa hya ha1 ha2 ha3 ha4 hb1 hb2 hb3 hb4 hx hy
        have HNX := Lib.hid (show ∃ N, N = nest ys la lb k from ⟨_, rfl⟩)
        obtain ⟨N, hN⟩ := HNX.out
        rw [← hN] at HNL HNB HNO ⊢
        have HN := Lib.hid hN
        clear hN HNX
        obtain ⟨K, hK⟩ : ∃ K : Nat → Prop, K = fun i => (Value.slice A' N.length c').ownBlock = some i := ⟨_, rfl⟩
        have HK := Lib.hid hK
        have HKS := Lib.hid (show ∀ i, K i → i < wr.heap.size by intro i hi; rw [hK] at hi; exact own_lt HNO.out i hi)
        clear hK
        go_wp2_with fail
        refine (write_in K wr HKS.out W.heap.size HBW.out.size).mono ?_
        rintro e w3 ⟨rfl, hp3, hb3⟩
        obtain ⟨p, hp⟩ : ∃ p, p = wr.heap.size + 1 := ⟨_, rfl⟩
        rw [← hp] at hp3 ⊢
        have d0 := (hb3.cell (p := ⟨ga, oa + k, none⟩) (Nat.lt_of_lt_of_le hga HBW.out.size)).trans b0
        have d1 := (hb3.cell (p := ⟨gb, ob + k, none⟩) (Nat.lt_of_lt_of_le hgb HBW.out.size)).trans b1
        have HP3 := Lib.hid (hp3.below (Bd (B0 w3)))
        have HB3 := Lib.hid (Bt HBW.out hb3)
        have HNO3 := Lib.hid (own_below HNO.out hb3)
        have hoa : octE xa = 0 ∧ octL [] xa = [] ++ lay xa := oct_lay [] xa (by omega)
        have hob : octE N = 0 ∧ octL (lay xa) N = lay xa ++ lay N := oct_lay _ _ (by have := HNL.out; omega)
        have HOA := Lib.hid hoa
        have HOB := Lib.hid hob
        have hlay : ∀ l : List Int, (lay l).length = 2 + l.length := fun l => by simp [lay, be_length]
        have HLAY := Lib.hid hlay
        have HNO4 := Lib.hid (Rd.of_own (own_below HNO3.out (Bd (B0 w3))))
        have HXA3 := Lib.hid (HXA.out.below (Bd HB3.out) (fun i hi => hi))
        have HYA3 := Lib.hid (HYA.out.below (Bd HB3.out) (fun i hi => hi))
        have z3 := HB3.out.size
        clear hp hp3 hb3 b0 b1 hoa hob hlay
        go_wp2_with fail
        go_region_held3 (fun w' => w'.cell? ⟨ga, oa + k, none⟩ = some (.slice x.A x.bs.length x.c) ∧ w'.cell? ⟨gb, ob + k, none⟩ = some (.slice y.A y.bs.length y.c)) (first | (exact ⟨r0, r1⟩) | (exact ⟨s0, s1⟩) | (exact ⟨t0, t1⟩) | go_keep)
          (first
            | (go_at_call 17; have hq5 := hp5; have y4 := HYA3.out.kept hm4 (fun i hi h => by have h2 := h.1; omega); have y5 := y4.kept hm5 (fun i hi h => by have h2 := h.1; omega); have l5 : ∀ i, i < W.heap.size → i < w5.heap.size := (fun i hi => by have h4 := hm4.size; have h5 := hm5.size; have h6 : w3.drew.heap.size = w3.heap.size := rfl; omega); have m5 : (lay xa ++ lay N).length + ya.length ≤ 140737488355328 := (by rw [List.length_append, HLAY.out, HLAY.out]; have := HNL.out; omega); refine (wbytes_in (T := fun i => i < W.heap.size) ya y.A y.c w5 hp5 y5 l5 m5).mono ?_; rintro e w6 ⟨rfl, hp6, hm6⟩; have t0 := hm6.cell (p := ⟨ga, oa + k, none⟩) s0 (fun h => by have := h.1; simp at this; omega); have t1 := hm6.cell (p := ⟨gb, ob + k, none⟩) s1 (fun h => by have := h.1; simp at this; omega))
            | (go_at_call 19; have hq4 := hp4; have ho4 := own_mod (own_below HNO3.out (Bd (B0 w3))) hm4 (fun i hi h => h.2 (by rw [HK.out]; exact hi)) (Nat.le_refl _); refine (octets_in N A' c' w4 hp4 (Rd.of_own ho4) (fun i hi => ⟨own_lt ho4 i hi, .inr (by rw [HK.out]; exact hi)⟩) (by rw [List.nil_append, HLAY.out]; have := HNL.out; omega)).mono ?_; rw [HOB.out.1, List.nil_append, HOB.out.2]; rintro e w5 ⟨rfl, hp5, hm5⟩; have s0 := hm5.cell (p := ⟨ga, oa + k, none⟩) r0 (fun h => by have := h.1; simp at this; omega); have s1 := hm5.cell (p := ⟨gb, ob + k, none⟩) r1 (fun h => by have := h.1; simp at this; omega))
            | (go_at_call 19; refine (octets_in (T := fun i => i < W.heap.size) xa x.A x.c _ HP3.out HXA3.out (fun i hi => ⟨by simp; omega, .inl hi⟩) (by simp; omega)).mono ?_; rw [HOA.out.1, HOA.out.2]; rintro e w4 ⟨rfl, hp4, hm4⟩; have r0 := hm4.cell (p := ⟨ga, oa + k, none⟩) d0 (fun h => by have := h.1; simp at this; omega); have r1 := hm4.cell (p := ⟨gb, ob + k, none⟩) d1 (fun h => by have := h.1; simp at this; omega))
            | fail)
        have HB6 := Lib.hid (Bm (Bm (Bm (Bd HB3.out) hm4 (fun i hi => hi.1)) hm5 (fun i hi => hi.1)) hm6 (fun i hi => hi.1))
        have HP6 := Lib.hid hp6
        have hne : (lay xa ++ lay N ++ ya).length ≤ 140737488355328 := by rw [List.length_append]; exact m5
        have HNE := Lib.hid hne
        have hnx : nest ys la lb (k + 1) = lay xa ++ lay N ++ ya := by
          simp only [nest, List.getElem?_eq_getElem hka, List.getElem?_eq_getElem hkb, Option.elim_some]
          rw [← HN.out, HEX.out, HEY.out, List.append_assoc, HEQ.out.1, HEQ.out.2]
        have hny : Byt (lay xa ++ lay N ++ ya) := ((lay_byt HBX.out).append (lay_byt HNB.out)).append HBY.out
        have HNX := Lib.hid hnx
        have HNY := Lib.hid hny
        clear hnx hny hne hp4 hm4 r0 r1 hq4 ho4 hp5 hm5 s0 s1 hq5 y4 y5 l5 m5 hp6 hm6 t0 t1 d0 d1
        go_wp2_with fail
        refine (out_in _ HP6.out HNE.out).mono ?_
        rintro e w7 ⟨A7, c7, rfl, HF7⟩
        have HF7' := Lib.hid HF7
        clear HF7
        go_wp2_with fail
        go_roundw
        case rel => exact ⟨k + 1, A7, c7, by omega, congrArg (fun n => Value.slice A7 n c7) (by rw [HNX.out]; simp only [List.length_append]; omega), by go_num, Bt HB6.out HF7'.out.kept, by rw [HNX.out]; exact HNY.out, by rw [HNX.out]; exact own_mod HF7'.out.own (Mod.refl (fun _ => False) _) (fun _ _ h => h) HB6.out.size⟩
        case measure => simp [intOf]; omega
      · have hlt2 : ¬ (k : Int) < (n : Int) := by omega
        have hkn : k = n := by omega
        subst hkn
        clear hnl hnb hno hbW
        go_wp2_with fail
        obtain ⟨wo, rfl⟩ : ∃ wo, wo = wr := ⟨_, rfl⟩
        go_loopw [8, 11] (fun al i wr => ∃ (m : Nat) (A' : Option Addr) (c' : Nat) (j : Int), m ≤ k ∧ al = .slice A' (nest ys la lb m).length c' ∧ i = .int .i64 j ∧ j = m - 1 ∧ Below W.heap.size W wr ∧ Byt (nest ys la lb m) ∧ wr.ownsRow W.heap.size 5 1 (.slice A' (nest ys la lb m).length c') (nest ys la lb m).length (bts (nest ys la lb m))) (fun _ i _ => (intOf i + 1).toNat)
        case atStart => exact ⟨k, A', c', (k : Int) - 1, Nat.le_refl _, rfl, rfl, rfl, HBW.out, HNB.out, HNO.out⟩
        case round =>
          obtain ⟨m, A3, c3, j, hm, rfl, rfl, hj, hbW, hnb, hno⟩ := hrel
          cases m with
          | zero =>
            obtain rfl : j = -1 := by omega
            have HB9 := Lib.hid hbW
            have HO9 := Lib.hid hno
            clear hbW hnb hno hj
            go_wp2_with fail
            refine (eq_bytes _ _ _ _ (nest ys la lb 0) ys _ (Rd.of_own HO9.out) (HYR.out.below HB9.out (fun i hi => hi))).mono ?_
            rintro e w9 ⟨rfl, n9, rfl⟩
            rw [show nest ys la lb 0 = ys from rfl, eqB_self]
            go_wp2_with fail
            go_ret
            exact ⟨rfl, BdN HB9.out n9⟩
          | succ m =>
            obtain rfl : j = (m : Int) := by omega
            clear hj
            obtain ⟨ga, oa, rfl, hga, ha1, ha2, ha3, ha4⟩ := HA.out.at_ m (by omega)
            obtain ⟨gb, ob, rfl, hgb, hb1, hb2, hb3, hb4⟩ := HBB.out.at_ m (by omega)
            have hka : m < la.length := by omega
            have hkb : m < lb.length := by omega
            obtain ⟨x, hx⟩ : ∃ x, x = la[m] := ⟨_, rfl⟩
            obtain ⟨y, hy⟩ : ∃ y, y = lb[m] := ⟨_, rfl⟩
            have hnx : nest ys la lb (m + 1) = lay (x.bs.take 50) ++ (lay (nest ys la lb m) ++ y.bs.take 50) := by
              simp only [nest, List.getElem?_eq_getElem hka, List.getElem?_eq_getElem hkb, Option.elim_some]
              rw [hx, hy]
            rw [← hx] at ha1 ha2 ha3 ha4
            rw [← hy] at hb1 hb2 hb3 hb4
            obtain ⟨xa, hxa⟩ : ∃ xa, xa = x.bs.take 50 := ⟨_, rfl⟩
            obtain ⟨ya, hya⟩ : ∃ ya, ya = y.bs.take 50 := ⟨_, rfl⟩
            obtain ⟨N, hN⟩ : ∃ N, N = nest ys la lb m := ⟨_, rfl⟩
            have hxal : xa.length ≤ 50 ∧ xa.length ≤ x.bs.length := by rw [hxa]; simp; omega
            have hyal : ya.length ≤ 50 ∧ ya.length ≤ y.bs.length := by rw [hya]; simp; omega
            have hma : (if (50 : Int) < (x.bs.length : Int) then (50 : Int) else (x.bs.length : Int)) = (xa.length : Int) := by rw [hxa, List.length_take]; split <;> omega
            have hmb : (if (50 : Int) < (y.bs.length : Int) then (50 : Int) else (y.bs.length : Int)) = (ya.length : Int) := by rw [hya, List.length_take]; split <;> omega
            have hxar : Rd W (fun i => i < W.heap.size) 1 (.slice x.A xa.length x.c) xa.length (bts xa) := by rw [hxa]; exact rd_head _ (x.bs.drop 50) (by rw [List.take_append_drop]; exact ha3)
            have hyar : Rd W (fun i => i < W.heap.size) 1 (.slice y.A ya.length y.c) ya.length (bts ya) := by rw [hya]; exact rd_head _ (y.bs.drop 50) (by rw [List.take_append_drop]; exact hb3)
            have cpa := ha3.cap.2
            have cpb := hb3.cap.2
            unfold maxLen at cpa cpb
            rw [← hxa, ← hya, ← hN] at hnx
            have hNl := nest_len ys la lb hyl m
            rw [← hN] at hNl
            rw [hnx] at hnb hno ⊢
            have hbytN : Byt N := fun z hz => hnb z (by simp [lay, hz])
            obtain ⟨L, hL⟩ : ∃ L, L = lay xa ++ (lay N ++ ya) := ⟨_, rfl⟩
            rw [← hL] at hnb hno ⊢
            have HXA := Lib.hid hxar
            have HYA := Lib.hid hyar
            have HN := Lib.hid hN
            have HNB' := Lib.hid (And.intro hnb hbytN)
            have HNO' := Lib.hid hno
            have HBW' := Lib.hid hbW
            have hxc : (xa.length : Int) ≤ (x.c : Int) := by omega
            have hyc : (ya.length : Int) ≤ (y.c : Int) := by omega
            have hxc' : xa.length ≤ x.c := by omega
            have hyc' : ya.length ≤ y.c := by omega
            have hkl : (m : Int) < (la.length : Int) := by omega
            have hkl2 : (m : Int) < (lb.length : Int) := by omega
            have HCX := Lib.hid ha4
            have HCY := Lib.hid hb4
            have hTl : L.length ≤ 140737488355328 := by rw [hL]; simp [lay, be_length]; omega
            have HTL := Lib.hid hTl
            have HL := Lib.hid hL
            have hr1 := Lib.hid (ro_lay xa (lay N ++ ya) 50 (by omega) (by omega))
            have hr2 := Lib.hid (ro_lay N ya 65535 (by omega) (by omega))
            have hr3 := Lib.hid (byt_all ya)
            clear hxar hyar hxa hya ha1 ha2 ha3 ha4 hb1 hb2 hb3 hb4 hx hy hnx hN hnb hno hbW hbytN hTl hL
            go_wp2_with fail
            refine (rnew_any _ A3 c3 _ _ (Rd.of_own HNO'.out) (fun i hi => own_lt HNO'.out i hi) HTL.out).mono ?_
            rintro e w4 ⟨r, S, rfl, hR4, hb4, hS4⟩
            have hSl := fun i hi => Nat.le_trans HBW'.out.size (hS4 i hi)
            have hSn : ∀ i, S i → i < w4.heap.size := by obtain ⟨_, _, _, _, h⟩ := hR4; exact h.1
            have HS := Lib.hid (And.intro hSl hSn)
            have HB4 := Lib.hid (Bt HBW'.out hb4)
            rw [HL.out] at hR4
            have HR4 := Lib.hid hR4
            clear hSl hSn hb4 hS4 hR4
            go_wp2_with fail
            refine (roctets_any S r _ 50 _ HR4.out (by have := HNB'.out.1; rwa [HL.out] at this)).mono ?_
            rintro e w5 ⟨A5, c5, rfl, ho5, hm5, hR5⟩
            rw [hr1.out.2.1] at ho5 ⊢
            rw [hr1.out.1]
            rw [hr1.out.2.2] at hR5
            have HB5 := Lib.hid (Bm HB4.out hm5 HS.out.1)
            have lw5 := hm5.size
            have HO5 := Lib.hid ho5
            have HR5 := Lib.hid hR5
            clear hm5 hR5 ho5 HR4
            go_wp2_with fail
            refine (roctets_any S r _ 65535 _ HR5.out (fun z hz => HNB'.out.1 z (by rw [HL.out]; exact List.mem_append_right _ hz))).mono ?_
            rintro e w6 ⟨A6, c6, rfl, ho6, hm6, hR6⟩
            rw [hr2.out.2.1] at ho6 ⊢
            rw [hr2.out.1]
            rw [hr2.out.2.2] at hR6
            have HB6 := Lib.hid (Bm HB5.out hm6 HS.out.1)
            have lw6 := hm6.size
            have HO6 := Lib.hid ho6
            have HR6 := Lib.hid hR6
            have R5 := Lib.hid ((Rd.of_own HO5.out).kept hm6 (fun i hi hs => by have := own_ge HO5.out i hi; have := HS.out.2 i hs; omega))
            have L5 := Lib.hid (fun i (hi : (Value.slice A5 xa.length c5).ownBlock = some i) => Nat.lt_of_lt_of_le (own_lt HO5.out i hi) lw6)
            have G5 := Lib.hid (fun i (hi : (Value.slice A5 xa.length c5).ownBlock = some i) => own_ge HO5.out i hi)
            clear hm6 hR6 ho6 HR5 HO5
            go_wp2_with fail
            refine (left_any S r ya _ HR6.out).mono ?_
            rintro e w7 ⟨rfl, hw7⟩
            have hb7 : Below w6.heap.size w6 w7 := by obtain ⟨n, rfl⟩ := hw7; exact BdN (B0 _) n
            have HB7 := Lib.hid (Bt HB6.out hb7)
            have HR7 := Lib.hid (HR6.out.below hb7)
            have HO7 := Lib.hid (own_below HO6.out hb7)
            have R7 := Lib.hid (R5.out.below hb7 (fun i hi => L5.out i hi))
            have lw7 := hb7.size
            clear hw7 hb7 HR6 HO6 R5
            go_wp2_with fail
            refine (rbytes_any S r ya ya.length _ HR7.out).mono ?_
            rintro e w8 ⟨A8, c8, rfl, ho8, hm8, hR8⟩
            rw [hr3.out.2.1] at ho8 ⊢
            rw [hr3.out.1]
            have HB8 := Lib.hid (Bm HB7.out hm8 HS.out.1)
            have HO8 := Lib.hid ho8
            have lw8 := hm8.size
            have R8 := Lib.hid (R7.out.kept hm8 (fun i hi hs => by
              have h1 := G5.out i hi
              have h2 := HS.out.2 i hs
              omega))
            have HN8 := Lib.hid (own_mod HO7.out hm8 (fun i hi hs => by have h1 := own_ge HO7.out i hi; have h2 := HS.out.2 i hs; omega) (Nat.le_refl _))
            have d0 := (HB8.out.cell (p := ⟨ga, oa + m, none⟩) hga).trans HCX.out
            have d1 := (HB8.out.cell (p := ⟨gb, ob + m, none⟩) hgb).trans HCY.out
            have z8 := HB8.out.size
            have L8 := Lib.hid (fun i hi => own_lt HO8.out i hi)
            clear hm8 ho8 hR8 HR7 HO7 R7
            go_wp2_with fail
            go_region_held3 (fun w' => w'.cell? ⟨ga, oa + m, none⟩ = some (.slice x.A x.bs.length x.c) ∧ w'.cell? ⟨gb, ob + m, none⟩ = some (.slice y.A y.bs.length y.c)) (first | (exact ⟨r0, r1⟩) | (exact ⟨s0, s1⟩) | go_keep)
              (first
                | (go_at_call_of 22 (Value.slice A8 ya.length c8); refine (eq_bytes _ _ _ _ ya ya _ ((Rd.of_own HO8.out).below (by repeat (first | exact hb9 | apply Bd | apply BdN | apply Ba)) (fun i hi => L8.out i hi)) (HYA.out.below (Bt HB8.out (by repeat (first | exact hb9 | apply Bd | apply BdN | apply Ba))) (fun i hi => hi))).mono ?_; rintro e w10 ⟨rfl, hw10⟩; rw [eqB_self]; have hb10 : Below w8.heap.size w8 w10 := (by obtain ⟨n, rfl⟩ := hw10; exact BdN (by repeat (first | exact hb9 | apply Bd | apply BdN | apply Ba)) n); clear hw10; have s0 := (hb10.cell (p := ⟨ga, oa + m, none⟩) (by simp; omega)).trans d0; have s1 := (hb10.cell (p := ⟨gb, ob + m, none⟩) (by simp; omega)).trans d1)
                | (go_at_call_of 22 (Value.slice A5 xa.length c5); refine (eq_bytes _ _ _ _ xa xa _ (R8.out.below (by repeat (first | exact B0 _ | apply Bd | apply BdN | apply Ba)) (fun i hi => by have h1 := L5.out i hi; omega)) (HXA.out.below (Bt HB8.out (by repeat (first | exact B0 _ | apply Bd | apply BdN | apply Ba))) (fun i hi => hi))).mono ?_; rintro e w9 ⟨rfl, hw9⟩; rw [eqB_self]; have hb9 : Below w8.heap.size w8 w9 := (by obtain ⟨n, rfl⟩ := hw9; exact BdN (by repeat (first | exact B0 _ | apply Bd | apply BdN | apply Ba)) n); clear hw9; have r0 := (hb9.cell (p := ⟨ga, oa + m, none⟩) (by simp; omega)).trans d0; have r1 := (hb9.cell (p := ⟨gb, ob + m, none⟩) (by simp; omega)).trans d1))
            have HB10 := Lib.hid (Bt HB8.out hb10)
            have HN10 := Lib.hid (own_below HN8.out hb10)
            clear hb9 hb10 r0 r1 s0 s1 d0 d1
            go_wp2_with fail
            go_roundw
            case rel => exact ⟨m, A6, c6, (m : Int) - 1, by omega, congrArg (fun l => Value.slice A6 l.length c6) HN.out, by go_num, rfl, HB10.out, by rw [← HN.out]; exact HNB'.out.2, by rw [← HN.out]; exact own_mod HN10.out (Mod.refl (fun _ => False) _) (fun _ _ h => h) (Nat.le_trans HB5.out.size (Nat.le_refl _))⟩
            case measure => simp [intOf]

theorem wireNests_walk {H : Type} {enc : TypeId × Value → H} (W : World) {base : Nat} {sp : Nat → Bool} {held : Bool} {v1 : Value} {d1 : DataW H} {p1 : List MemPlace} (hv1 : Value.okWide Try.prog W .any base 27 v1) (ht1 : DataW.Trod enc Try.prog W 0 sp held 27 v1 d1 p1) (hz1 : ∀ n ∈ d1.weights Try.prog 27, n ≤ reachBytes)
    {base2 : Nat} {sp2 : Nat → Bool} {held2 : Bool} {v2 : Value} {d2 : DataW H} {p2 : List MemPlace} (hv2 : Value.okWide Try.prog W .any base2 55 v2) (ht2 : DataW.Trod enc Try.prog W 0 sp2 held2 55 v2 d2 p2) (hz2 : ∀ n ∈ d2.weights Try.prog 55, n ≤ reachBytes)
    {base3 : Nat} {sp3 : Nat → Bool} {held3 : Bool} {v3 : Value} {d3 : DataW H} {p3 : List MemPlace} (hv3 : Value.okWide Try.prog W .any base3 55 v3) (ht3 : DataW.Trod enc Try.prog W 0 sp3 held3 55 v3 d3 p3) (hz3 : ∀ n ∈ d3.weights Try.prog 55, n ≤ reachBytes) :
    Calls Try.prog 8 #[v1, v2, v3] W fun e w' => e = .returned (.bool true) ∧ Below W.heap.size W w' := by
  obtain ⟨A, c, xs, rfl, hb, hl, hr⟩ := open_bytes hv1 ht1 hz1
  obtain ⟨A2, c2, l2, rfl, h2⟩ := open_bytess hv2 ht2 hz2
  obtain ⟨A3, c3, l3, rfl, h3⟩ := open_bytess hv3 ht3 hz3
  exact nests_walk1 W A c xs hb hl hr A2 c2 l2 h2 A3 c3 l3 h3
end Go.Proofs.Ytodijebpoipeiaa
