/- The statement RelayOrder: its walk. -/
import Derived.Test.YtdnbbjhickjnmaaR14
namespace Go.Proofs.Ytdnbbjhickjnmaa
open Go.RowKit Go.WideShapes Go.ChangeShapes
set_option maxRecDepth 20000
set_option linter.unusedVariables false
set_option linter.unusedSimpArgs false

set_option maxHeartbeats 8000000 in
theorem relayOrder_list (W : World) (A : Option Addr) (c : Nat) (ls : List Int) (hls : IntsRd W A c ls) :
    Calls Try.prog 4 #[.slice A ls.length c] W fun e w' => e = .returned (.bool true) ∧ Below W.heap.size W w' := by
  obtain ⟨i0, hi0, hz0, hz1, hz2⟩ := info_parts info5
  have hcap := hls.cap
  have hmost := hls.most
  have HR := Lib.hid hls
  clear hls
  go_enter Try.func4, Try.ntmps4
  go_wp2_with fail
  refine (works_any _).mono ?_
  rintro e w1 ⟨rfl, hb1⟩
  have lw1 := hb1.size
  have HB1 := Lib.hid hb1
  clear hb1
  go_wp2_with fail
  refine (new_in (fun _ => False) w1 (fun i h => h.elim) w1.heap.size (Nat.le_refl _)).mono ?_
  rintro e w2 ⟨rfl, HL2, hb2⟩
  obtain ⟨p, hp⟩ : ∃ p, p = w1.heap.size := ⟨_, rfl⟩
  rw [← hp] at HL2 lw1 ⊢
  have lp2 : p < w2.heap.size := by have := HL2.2.2; obtain ⟨S, _, hS⟩ := this; exact hS.lt _ hS.1
  have HW2 := Lib.hid (Bt HB1.out hb2)
  clear hb2 hp HB1
  have HK2 : Hid (KeptAt (w2.alloc (.cells (kcells (fun _ => .slice none 0 0)) 42)) (fun i => i = w2.heap.size) w2.heap.size (fun _ => [])) := Lib.hid ⟨rfl, by simp, fun _ => .slice none 0 0, Blk.new w2 42 _, fun _ _ => World.ownsRow_nil _ _ _ _, by simp [Value.ownBlock], by simp [Value.ownBlock]⟩
  have HL3 := Lib.hid (HL2.keep (L := fun i => i = w2.heap.size) (Ba (B0 w2) (.cells (kcells (fun _ => .slice none 0 0)) 42)) (fun j hj => .inl (by simp; omega)))
  clear HL2
  obtain ⟨b, hb⟩ : ∃ b, b = w2.heap.size := ⟨_, rfl⟩
  rw [← hb] at HK2 HL3
  have lb : p < b := by omega
  go_wp2_with fail
  rw [← hb]
  clear hb
  go_loopw [5] (fun i wr => ∃ j : Nat, ∃ kb : Nat → List Int, ∃ S : Nat → Prop, j ≤ ls.length ∧ i = .int .i64 j ∧ KeptAt wr S b kb ∧ (∀ n, n < 9 → (kb n).length ≤ 16) ∧ RelIn p S wr p (qOf kb) ∧ (∀ i, S i → p ≤ i) ∧ Below W.heap.size W wr) (fun i _ => ls.length - (intOf i).toNat)
  case atStart => exact ⟨0, _, _, Nat.zero_le _, rfl, HK2.out, by simp, HL3.out, fun i hi => by omega, Ba HW2.out _⟩
  case round =>
    obtain ⟨j, kb, S, hj, rfl, hk, h16, hl, hS, hbw⟩ := hrel
    obtain ⟨wo, rfl⟩ : ∃ wo, wo = wr := ⟨_, rfl⟩
    have HKO := Lib.hid hk
    have HLO := Lib.hid hl
    have HWO := Lib.hid hbw
    have HS := Lib.hid hS
    have H16 := Lib.hid h16
    clear hl hS h16
    by_cases hlt : j < ls.length ∧ j < 200
    · obtain ⟨hlt, h200⟩ := hlt
      have hlt' : (j : Int) < (ls.length : Int) := by omega
      have h200' : (j : Int) < 200 := by omega
      have hj0 : (0 : Int) ≤ (j : Int) := by omega
      have hj255 : (j : Int) ≤ 255 := by omega
      obtain ⟨ga, oa, hA, hga, hx⟩ := HR.out.at_ j hlt
      subst hA
      have hx0 : wo.cell? ⟨ga, oa + j, none⟩ = some (.int .i64 ls[j]) := (hbw.cell hga).trans hx
      generalize ls[j] = x at hx0
      clear hx hbw
      have hbr := bringF_lt x 8 (by omega)
      obtain ⟨t0, hT0⟩ : ∃ t : Nat, bringF x 8 = t := ⟨(bringF x 8).toNat, by omega⟩
      rw [hT0] at hbr
      obtain ⟨to, hto⟩ : ∃ to, to = t0 + 1 := ⟨_, rfl⟩
      have e1 : (1 : Int) + (t0 : Int) = (to : Int) := by omega
      have to1 : (1 : Int) ≤ (to : Int) := by omega
      have to2 : (to : Int) < 9 := by omega
      have HT := Lib.hid (And.intro hT0 e1)
      clear hT0 hbr hto
      have hk' := hk
      obtain ⟨s1, s2, vs, s3, s4, s5, s6⟩ := hk
      obtain ⟨Ak, ck, hvk⟩ := own_slice (s4 to (by omega))
      have d0 := (s3.cell to).trans (kcells_at vs to (by omega))
      rw [hvk] at d0
      have HV := Lib.hid hvk
      have HS4 := Lib.hid (And.intro s1 (And.intro s2 (And.intro s3 (And.intro s4 (And.intro s5 s6)))))
      have lbo := s3.lt
      clear s1 s2 s3 s4 s5 s6 hvk hk'
      go_wp2_with fail
      refine (bring_any x 8 _ (by omega)).mono ?_
      rintro e w' ⟨rfl, rfl⟩
      rw [HT.out.1]
      have e2 := HT.out.2
      go_wp2_with fail
      refine (frame_any (1 + (to : Int) % 8) to _ 1 1 _).mono ?_
      rintro e w3 ⟨rfl, hbo⟩
      have hbr := Bt (Ba (B0 wo) (.cells #[.int .u8 (j : Int)] 5)) hbo
      have hb7 := (Blk.new wo 5 (bts [(j : Int)]).toArray).later hbo
      have lr : wo.heap.size < w3.heap.size := Nat.lt_of_lt_of_le (by simp) hbo.size
      have HL3 := HLO.out.below hbr
      clear hbo
      go_wp2_with fail
      refine (put_in (1 + (to : Int) % 8) to _ 1 [(j : Int)] _ HL3 (rd_lit _ _ [(j : Int)] 5 hb7 (by simp [maxLen])) (fun i hi => by omega)).mono ?_
      rintro e w4 ⟨rfl, HL4, hm4⟩
      rw [show rputE (qOf kb) (1 + (to : Int) % 8) to ([(j : Int)] : List Int).length = if (kb to).length = 16 then 7 else 0 from ord_putE kb to (by omega) (by omega)]
      have hK4 : KeptAt w4 S b kb := (HKO.out.below hbr).kept hm4 (fun i hi hs => hs.2 hi)
      have HK4 := Lib.hid hK4
      have HB4 := Lib.hid (Bm (Bt HWO.out hbr) hm4 (fun i h => by have := h.1; omega))
      have hblk4 : Blk w4 b 42 (kcells vs) := (HS4.out.2.2.1.later hbr).kept hm4 (fun hs => hs.2 HS4.out.1)
      have hown4 : ∀ n, n < 9 → w4.ownsRow 0 5 1 (vs n) (kb n).length (bts (kb n)) := fun n hn => own_mod (own_below (HS4.out.2.2.2.1 n hn) hbr) hm4 (fun i hi hs => hs.2 (HS4.out.2.2.2.2.1 n i hn hi)) (Nat.le_refl _)
      have d4 := (hblk4.cell to).trans (kcells_at vs to (by omega))
      have z4 := hblk4.frozen to
      rw [HV.out] at d4
      have hsz4 := hm4.size
      have lr4 := hbr.size
      have HLX := Lib.hid HL4
      have HBLK := Lib.hid (And.intro hblk4 hown4)
      clear d0 hx0 hK4 hblk4 hown4 HL3 HL4 hm4 hb7 hbr
      by_cases hfull : (kb to).length = 16
      · rw [if_pos hfull]
        have hlen : ¬ ((kb to).length : Int) < 16 := by omega
        have HL5 := HLX.out
        rw [ord_full kb to (by omega) (by omega) _ hfull] at HL5
        have HL6 := Lib.hid HL5
        clear HL5
        go_wp2_with fail
        go_roundw
        case rel => exact ⟨j + 1, kb, S, by omega, by go_num, HK4.out, H16.out, HL6.out, HS.out, HB4.out⟩
        case measure => simp [intOf]; omega
      · rw [if_neg hfull]
        have h16 := H16.out to (by omega)
        have hlen : ((kb to).length : Int) < 16 := by omega
        have HL5 := HLX.out
        rw [ord_putQ kb to (by omega) (by omega) _ hfull] at HL5
        have HL6 := Lib.hid HL5
        clear HL5 h16
        have HOK : Hid ((w4.alloc (.cells (bts [(j : Int)]).toArray 5)).ownsRow 0 5 1 (.slice Ak (kb to).length ck) (kb to).length (bts (kb to))) := Lib.hid (own_below (HV.out ▸ HBLK.out.2 to (by omega)) (Ba (B0 w4) _))
        have HRD := Lib.hid (rd_lit (w4.alloc (.cells (bts [(j : Int)]).toArray 5)) w4.heap.size [(j : Int)] 5 (Blk.new w4 5 _) (by simp [maxLen]))
        have HNE := Lib.hid (own_ne_blk HOK.out (HBLK.out.1.alloc (.cells (bts [(j : Int)]).toArray 5)) (show (5 : TypeId) ≠ 42 by decide))
        go_wp2_with (at_builtin; refine wpList_append_rd _ rfl (.tmp 62) (.tmp 65) 29 rfl 0 5 i0 _ 1 1 Try.underlying29 hi0 hz0 hz1 hz2 rfl (by omega) (.slice Ak (kb to).length ck) (kb to).length (bts (kb to)) rfl HOK.out (fun k => k = w4.heap.size) (.slice (some ⟨w4.heap.size, 0, none⟩) 1 1) 1 (bts [(j : Int)]) rfl HRD.out (bts_one _) (by simp only [maxLen]; omega) (by omega) (Nat.zero_le _) ?_; intro v2 w5 HA; obtain ⟨A2, c2, rfl⟩ := own_slice HA.own; have hb5 := (HBLK.out.1.alloc (.cells (bts [(j : Int)]).toArray 5)).grown HA.grown HNE.out.symm; have q5 := (hb5.cell to).trans (kcells_at vs to (by omega)); have z5 := hb5.frozen to)
        go_roundw
        case rel =>
          obtain ⟨g1, g2, g3⟩ := KeptAt.put HS4.out.1 HK4.out.2.1 HBLK.out.1 HBLK.out.2 HS4.out.2.2.2.2.1 HS4.out.2.2.2.2.2 (show to < 9 by omega) (Ba (B0 w4) _) (by rw [HV.out]; exact HA)
          exact ⟨j + 1, upd kb to (kb to ++ [(j : Int)]), _, by omega, by go_num, g1, fun n hn => by
            by_cases e : n = to
            · subst e; rw [upd_same]; simp; omega
            · rw [upd_ne _ _ e]; exact H16.out n hn, HL6.out.turn g2 (fun i hi => hi) (fun i hi => hi.imp id (fun h => by rw [← g3]; exact h)), fun i hi => hi.elim (HS.out i) (fun h => by have := HB4.out.size; omega), Bm HB4.out g2 (fun i hi => by have := HS.out i hi; omega)⟩
        case measure => simp [intOf]; omega
    · have hend : (¬ (j : Int) < (ls.length : Int)) ∨ ((j : Int) < (ls.length : Int) ∧ ¬ (j : Int) < 200) := by omega
      clear hlt hj hbw hk
      rcases hend with hend | ⟨hend, hend2⟩
      all_goals
        go_wp2_with fail
        go_loopw [8] (fun t wr => ∃ to : Nat, 1 ≤ to ∧ to ≤ 9 ∧ t = .int .i64 to ∧ RelIn p S wr p (qAt kb to 0) ∧ KeptAt wr S b kb ∧ Below W.heap.size W wr) (fun t _ => 9 - (intOf t).toNat)
        case atStart => exact ⟨1, by omega, by omega, rfl, by rw [qAt_start]; exact HLO.out, HKO.out, HWO.out⟩
        case round =>
          obtain ⟨to, h1, h9, rfl, hl2, hk2, hw2⟩ := hrel
          have HL2 := Lib.hid hl2
          have HK2 := Lib.hid hk2
          have HW2 := Lib.hid hw2
          clear hl2 hk2 hw2
          obtain ⟨wu, rfl⟩ : ∃ wu, wu = wr := ⟨_, rfl⟩
          by_cases hto : to < 9
          · have hto' : (to : Int) ≤ 8 := by omega
            have to1 : (1 : Int) ≤ (to : Int) := by omega
            have to0 : (0 : Int) ≤ (to : Int) := by omega
            have to9 : (to : Int) < 9 := by omega
            go_wp2_with fail
            go_loopw [9] (fun i wr => ∃ n : Nat, n ≤ (kb to).length ∧ i = .int .i64 n ∧ RelIn p S wr p (qAt kb to n) ∧ KeptAt wr S b kb ∧ Below W.heap.size W wr) (fun i _ => (kb to).length - (intOf i).toNat)
            case atStart => exact ⟨0, Nat.zero_le _, rfl, HL2.out, HK2.out, HW2.out⟩
            case round =>
              obtain ⟨n, hn, rfl, hl3, hk3, hw3⟩ := hrel
              have hk3' := hk3
              obtain ⟨s1, s2, vs, s3, s4, s5, s6⟩ := hk3'
              have d0 := (s3.cell to).trans (kcells_at vs to hto)
              have lbr := s3.lt
              have lwr := hw3.size
              have HL3 := Lib.hid hl3
              have HK3 := Lib.hid hk3
              have HW3 := Lib.hid hw3
              have h16 := H16.out to hto
              have hs4 := s4 to hto
              have HSB := Lib.hid (And.intro s1 (s5 to))
              clear hl3 hk3 hw3 s1 s2 s3 s4 s5 s6
              by_cases hlt : n < (kb to).length
              · obtain ⟨g, cp, hv, _⟩ := hs4.form (by omega)
                rw [hv] at d0 hs4
                have hlt' : (n : Int) < ((kb to).length : Int) := by omega
                have hn0 : (0 : Int) ≤ (n : Int) := by omega
                obtain ⟨x, hx⟩ : ∃ x, x = (kb to)[n] := ⟨_, rfl⟩
                have d1 : wr.cell? ⟨g, n, none⟩ = some (.int .u8 x) := hx ▸ (hs4.cellAt n (by omega)).trans (by rw [bts_getElem? _ n hlt])
                have HLEN : Hid (lenF (qAt kb to n) to = ((kb to).length : Int) - (n : Int)) := Lib.hid (by rw [qAt_len kb to n h1 hto]; omega)
                have HTK := Lib.hid (qAt_take kb to n h1 hto hlt)
                rw [← hx] at HTK
                have hle : ((kb to).length : Int) ≤ 16 := by omega
                have lg := own_lt hs4 g rfl
                have HSG := Lib.hid (And.intro HSB.out.1 (HSB.out.2 g hto (by rw [hv]; rfl)))
                clear hx hs4 hv
                go_wp2_with fail
                have hwa : IntKind.i64.wrap (((kb to).length : Int) - (n : Int)) = ((kb to).length : Int) - (n : Int) := by rw [IntKind.wrap_i64]; omega
                have hwb : ((((kb to).length : Int) - (n : Int)) != (((kb to).length : Int) - (n : Int))) = false := by simp
                have hwc : (to : Int).tmod 8 = (to : Int) % 8 := Int.tmod_eq_emod_of_nonneg to0
                have hwd : IntKind.i64.wrap ((to : Int) % 8) = (to : Int) % 8 := by rw [IntKind.wrap_i64]; omega
                have hwe : IntKind.i64.wrap (1 + (to : Int) % 8) = 1 + (to : Int) % 8 := by rw [IntKind.wrap_i64]; omega
                go_region_held3 (fun w' => w'.cell? ⟨b, to, none⟩ = some (.slice (some ⟨g, 0, none⟩) (kb to).length cp) ∧ w'.cell? ⟨g, n, none⟩ = some (.int .u8 x)) (first | go_keep | (refine ⟨(hbr.cell lbr).trans d0, (hbr.cell lg).trans d1⟩) | (refine ⟨hmz.cell ((hbr.cell lbr).trans d0) (fun h => h.2 (.inl HSG.out.1)), hmz.cell ((hbr.cell lg).trans d1) (fun h => h.2 (.inl HSG.out.2))⟩)) (first
                  | (go_at_call 22; refine (len_in to _ (HL3.out.below (Bd (B0 wr)))).mono ?_; rintro e w' ⟨rfl, rfl⟩; rw [HLEN.out])
                  | (go_at_call 26; refine (frame_any (1 + (to : Int) % 8) to _ 1 1 _).mono ?_; rintro e wf ⟨rfl, hbf⟩; have hbr := Bt (Ba (Bd (B0 wr)) (.cells #[.int .u8 x] 5)) hbf; have hb7 := (Blk.new wr.drew 5 (bts [x]).toArray).later hbf; have lf : wr.heap.size < wf.heap.size := Nat.lt_of_lt_of_le (by simp) hbf.size; have HLk := HL3.out.keep (L := fun i => S i ∨ i = wr.heap.size) hbr (fun i hi => hi.elim .inr (fun e => .inl (by omega))))
                  | (go_at_call 27; refine (takes_in to (1 + (to : Int) % 8) to _ 1 [x] _ HLk (rd_lit _ _ [x] 5 hb7 (by simp [maxLen])) (fun i hi => ⟨by subst hi; exact hb7.lt, .inr (.inr hi)⟩)).mono ?_; rintro e wz ⟨rfl, HLz, hmz⟩; rw [HTK.out.1]; rw [HTK.out.2] at HLz))
                all_goals
                  have HLz' := Lib.hid (HLz.keep (L := S) (B0 wz) (fun i hi => .inr (.inl hi)))
                  have HKz := Lib.hid ((HK3.out.below hbr).kept hmz (fun i hi hs => hs.2 (.inl hi)))
                  have HWz := Lib.hid (Bm (Bt HW3.out hbr) hmz (fun i hi => by have := hi.1; omega))
                  clear HLz hmz hbr hb7 hbf HLk hwa hwb hwc hwd hwe
                  go_wp2_with fail
                  go_roundw
                  case rel => exact ⟨n + 1, by omega, by go_num, HLz'.out, HKz.out, HWz.out⟩
                  case measure => simp [intOf]; omega
              · obtain rfl : n = (kb to).length := by omega
                obtain ⟨Ak, ck, hv⟩ := own_slice hs4
                rw [hv] at d0
                have hle : ((kb to).length : Int) ≤ 16 := by omega
                have HQ := Lib.hid (qAt_none kb to h1 hto)
                have HLEN : Hid (lenF (qAt kb to (kb to).length) to = 0) := Lib.hid (by rw [qAt_len kb to _ h1 hto]; omega)
                clear hs4 hv
                go_wp2_with fail
                refine (take_in to _ HL3.out).mono ?_
                rintro e wt ⟨At, ct, rfl, _, HLt, hmt⟩
                rw [HQ.out.1, HQ.out.2.1]
                rw [HQ.out.2.2] at HLt
                have HKt := Lib.hid (HK3.out.kept hmt (fun i hi hs => hs.2 hi))
                have HWt := Lib.hid (Bm HW3.out hmt (fun i hi => by have := hi.1; omega))
                clear hmt
                go_wp2_with fail
                refine (len_in to _ (HLt.below (Ba (B0 wt) _))).mono ?_
                rintro e w' ⟨rfl, rfl⟩
                rw [HLEN.out]
                go_wp2_with fail
                go_roundw
                case rel => exact ⟨to + 1, by omega, by omega, by go_num, by rw [← qAt_next kb to h1]; exact HLt.below (Ba (B0 wt) _), HKt.out.below (Ba (B0 wt) _), Ba HWt.out _⟩
                case measure => simp [intOf]; omega
          · obtain rfl : to = 9 := by omega
            have hto' : ¬ ((9 : Nat) : Int) ≤ 8 := by omega
            go_wp2_with fail
            go_ret
            exact ⟨rfl, HW2.out⟩

theorem relayOrder_walk {H : Type} {enc : TypeId × Value → H} (W : World) {base : Nat} {sp : Nat → Bool} {held : Bool} {v : Value} {d : DataW H} {p : List MemPlace} (hv : Value.okWide Try.prog W .any base 41 v) (ht : DataW.Trod enc Try.prog W 0 sp held 41 v d p)
    (hz : ∀ n ∈ d.weights Try.prog 41, n ≤ reachBytes) :
    Calls Try.prog 4 #[v] W fun e w' => e = .returned (.bool true) ∧ Below W.heap.size W w' := by
  obtain ⟨A, c, l, rfl, hl⟩ := open_intlist hv ht
  exact relayOrder_list W A c l hl
end Go.Proofs.Ytdnbbjhickjnmaa
