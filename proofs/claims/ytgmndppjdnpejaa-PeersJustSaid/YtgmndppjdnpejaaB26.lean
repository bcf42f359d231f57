/- A key counts just if a peer of the netmap has it whose expiry is above the tick: PeersJust. -/
import Derived.Test.YtgmndppjdnpejaaB25
namespace Go.Proofs.Ytgmndppjdnpejaa
open Go.RowKit
set_option maxRecDepth 20000
set_option linter.unusedVariables false
set_option linter.unusedSimpArgs false

theorem ndsN_take {tick : Int} {ps : List Pe} {k : Nat} (hk : k < ps.length) : ndsN tick (ps.take (k + 1)) = ndsN tick (ps.take k) ++ (if tick < (ps[k]).ex then [(ps[k]).nd] else []) := by
  unfold ndsN
  rw [List.take_succ_eq_append_getElem hk, List.filter_append, List.map_append]
  by_cases h : tick < (ps[k]).ex
  · rw [if_pos h]; simp [h]
  · rw [if_neg h]; simp [h]
theorem ndsN_split {tick : Int} (ps : List Pe) (k : Nat) : ndsN tick ps = ndsN tick (ps.take k) ++ ndsN tick (ps.drop k) := by
  unfold ndsN
  rw [← List.map_append, ← List.filter_append, List.take_append_drop]
theorem ndsN_at {tick : Int} {ps : List Pe} {k : Nat} (hk : k < ps.length) (h : tick < (ps[k]).ex) : ∃ hl : (ndsN tick (ps.take k)).length < (ndsN tick ps).length, (ndsN tick ps)[(ndsN tick (ps.take k)).length] = (ps[k]).nd := by
  have e : ndsN tick ps = ndsN tick (ps.take k) ++ ((ps[k]).nd :: ndsN tick (ps.drop (k + 1))) := by
    rw [ndsN_split ps (k + 1), ndsN_take hk, if_pos h, List.append_assoc]
    rfl
  refine ⟨by rw [e, List.length_append, List.length_cons]; omega, ?_⟩
  simp only [e]
  rw [List.getElem_append_right (Nat.le_refl _)]
  simp
set_option maxHeartbeats 4000000 in
theorem peersJust_at (m : Nm) (tk : Int) (W : World) (hm : NmAt W (fun i => i < W.heap.size) m) :
    Calls Try.prog 4 #[m.v, .int .i64 tk] W fun e w' => e = .returned (.bool true) ∧ Below W.heap.size W w' := by
  obtain ⟨w1, hw1⟩ : ∃ u, u = W.alloc (.cells m.L.toArray 34) := ⟨_, rfl⟩
  have hb1 : Below W.heap.size W w1 := by rw [hw1]; exact Ba (B0 W) _
  have HG := Lib.hid (show Blk w1 W.heap.size 34 m.L.toArray by rw [hw1]; exact Blk.new _ _ _)
  have HB1 := Lib.hid hb1
  have HW1 := Lib.hid hw1
  have HM := Lib.hid (hm.below hb1 (fun _ h => h))
  have HML := Lib.hid (Nm.len hm.k32)
  have HMK := Lib.hid hm.k32
  have HMKB := Lib.hid hm.kb
  have HLM := Lib.hid (show (bts m.ks).length = 32 by rw [bts_length]; exact hm.k32)
  clear hm hb1 hw1
  go_enter Try.func4, Try.ntmps4
  go_upto_region 1 with fail
  change Code.wp _ _ _ _ (W.alloc (.cells m.L.toArray 34))
  rw [← HW1.out]
  go_wp2_with fail
  refine (works_any w1).mono ?_
  rintro e w2 ⟨rfl, hb2⟩
  have HB2 := Lib.hid (Bt HB1.out hb2)
  have HG2 := Lib.hid (HG.out.later hb2)
  have HM2 := Lib.hid (HM.out.below hb2 (fun i hi => by have := HB1.out.size; omega))
  clear hb2
  go_wp2_with (first | (refine step_load big_map rfl (.tmp 2) rfl W.heap.size 0 rfl m.L HML.out (blk_range HG2.out) ?_) | fail)
  refine (table_any _ m w2 HM2.out (fun i hi => Nat.lt_of_lt_of_le hi HB2.out.size)).mono ?_
  rintro e w3 (⟨hno, rfl, hb3⟩ | ⟨hyes, g, S, qs, rfl, ht, hpx, hb3, hSB⟩)
  · have HB3 := Lib.hid (Bt HB2.out hb3)
    have HG3 := Lib.hid (HG2.out.later hb3)
    have HM3 := Lib.hid (HM2.out.below hb3 (fun i hi => Nat.lt_of_lt_of_le hi HB2.out.size))
    have HCE := Lib.hid (chkE_bad hno)
    clear hb3 hno
    go_wp2_with (first | (refine step_load big_map rfl (.tmp 2) rfl W.heap.size 0 rfl m.L HML.out (blk_range HG3.out) ?_) | fail)
    refine (check_any _ m w3 HM3.out (fun i hi => Nat.lt_of_lt_of_le hi HB3.out.size)).mono ?_
    rw [HCE.out]
    rintro e w4 ⟨rfl, hb4⟩
    replace HB3 := Lib.hid (Bt HB3.out hb4)
    clear hb4
    go_wp2_with fail
    go_ret
    exact ⟨rfl, HB3.out⟩
  · have HB3 := Lib.hid (Bt HB2.out hb3)
    have HT := Lib.hid ht
    have HOK := Lib.hid (nm_ok hyes)
    have HPX := Lib.hid hpx
    have hn1 := HOK.out.node.1
    have HGW := Lib.hid (show W.heap.size < g from by
      have := hSB g ht.1
      have := HG2.out.lt
      omega)
    have HG3 := Lib.hid (HG2.out.later hb3)
    have HM3 := Lib.hid (HM2.out.below hb3 (fun i hi => Nat.lt_of_lt_of_le hi HB2.out.size))
    clear hb3 ht hpx hyes hSB
    go_wp2_with fail
    refine (bring_any tk 9007199254740992 w3 (by omega)).mono ?_
    rintro e w' ⟨rfl, rfl⟩
    obtain ⟨hn0, hn1'⟩ := bringF_lt tk 9007199254740992 (by omega)
    obtain ⟨n, hn⟩ : ∃ n, n = bringF tk 9007199254740992 := ⟨_, rfl⟩
    rw [← hn] at hn0 hn1' ⊢
    clear hn
    go_wp2_with fail
    refine (now_any S g m.node 0 m.ver n qs w3 HT.out hn1).mono ?_
    have e1 : nowE 0 n = 0 := by unfold nowE; rw [if_neg (by omega), if_neg (by omega)]
    have e2 : nowT 0 n = n := by unfold nowT; rw [e1, if_pos rfl]
    rintro e wb ⟨rfl, htb, hmb⟩
    rw [e1]
    rw [e2] at htb
    have HTB := Lib.hid htb
    have HBB := Lib.hid (Bm HB3.out hmb (fun i hi => by subst hi; have := HGW.out; omega))
    have HGB := Lib.hid (HG3.out.kept hmb (fun e => by have := HGW.out; omega))
    have HMB := Lib.hid (HM3.out.kept hmb (fun i hi e => by have := HGW.out; omega))
    have hcap := HMB.out.rp.cap.2
    have hd1 := hcap.1
    have hd2 := hcap.2
    unfold maxLen at hd2
    clear htb hmb e1 e2 hcap
    go_wp2_with fail
    refine (list_any S g m.node n m.ver qs wb HTB.out hn1).mono ?_
    rw [list_nds HOK.out HPX.out n]
    obtain ⟨L, hL⟩ : ∃ L, L = ndsN n m.ps := ⟨_, rfl⟩
    rw [← hL]
    have HL := Lib.hid hL
    rintro e wc ⟨A, c, rfl, ho, hbc⟩
    have HRL := Lib.hid (show Rd wc (fun i => i < wc.heap.size) 1 (.slice A L.length c) L.length (ints L) from (Rd.of_own ho).mono (fun i hi => own_lt ho i hi))
    have hcl := HRL.out.cap.2
    have hl1 := hcl.1
    have hl2 := hcl.2
    unfold maxLen at hl2
    have HTC := Lib.hid (HTB.out.below hbc)
    have HBC := Lib.hid (Bt HBB.out hbc)
    have HGC := Lib.hid (HGB.out.later hbc)
    have HMC := Lib.hid (HMB.out.below hbc (fun i hi => Nat.lt_of_lt_of_le hi HBB.out.size))
    have HQN := Lib.hid (show ∀ q ∈ qs, 1 ≤ q.nd ∧ q.nd ≤ 8 from fun q hq => by
      obtain ⟨p, hp, e⟩ := mem_px HPX.out hq
      rw [show q.nd = p.nd from congrArg Px.nd e]
      exact HOK.out.nd p hp)
    clear hL ho hbc hcl
    go_wp2_with fail
    go_loopw [7, 8] (fun at_ i wr => ∃ k : Nat, k ≤ m.ps.length ∧ i = .int .i64 k ∧ at_ = .int .i64 ((ndsN n (m.ps.take k)).length : Nat) ∧ Below wc.heap.size wc wr) (fun _ i _ => m.ps.length - (intOf i).toNat)
    case atStart => exact ⟨0, by omega, rfl, rfl, B0 _⟩
    case round =>
      obtain ⟨k, hk, rfl, rfl, hbv⟩ := hrel
      obtain ⟨wv, rfl⟩ : ∃ wv, wv = wr := ⟨_, rfl⟩
      have HBV := Lib.hid hbv
      have HGV := Lib.hid (HGC.out.later hbv)
      have hnc := nm_cells (blk_range HGV.out) HMK.out
      have x36 := hnc.2.2.2.2.2
      have HX3 := Lib.hid hnc.2.2.2.1
      rw [Nat.zero_add] at x36
      have lm := HGV.out.lt
      have HMV := Lib.hid (HMC.out.below hbv (fun i hi => Nat.lt_of_lt_of_le hi HBC.out.size))
      have HTV := Lib.hid (HTC.out.below hbv)
      have HRV := Lib.hid (HRL.out.below hbv (fun i hi => hi))
      obtain ⟨a, ha⟩ : ∃ a, a = (ndsN n (m.ps.take k)).length := ⟨_, rfl⟩
      rw [← ha]
      have HA := Lib.hid ha
      clear hbv hnc ha
      by_cases hlt : k < m.ps.length
      · have hlt' : (k : Int) < (m.ps.length : Int) := by omega
        have hk0 : (0 : Int) ≤ (k : Int) := by omega
        obtain ⟨gp, op, hA, hgS, hra⟩ := row_at HMV.out.rp (rowP_n HMV.out.each) hlt
        obtain ⟨p, hp⟩ : ∃ p, p = m.ps[k] := ⟨_, rfl⟩
        rw [← hp] at hra
        have HP0 := Lib.hid hp
        have HRA := Lib.hid hra
        have HPM := Lib.hid (show p ∈ m.ps by rw [hp]; exact List.getElem_mem hlt)
        have HPE := Lib.hid (HMV.out.each p HPM.out)
        have HPL := Lib.hid (show p.L.length = 36 from Pe.len HPE.out.k32)
        have HLP := Lib.hid (show (bts p.ks).length = 32 by rw [bts_length]; exact HPE.out.k32)
        have HND := Lib.hid (HOK.out.nd p HPM.out)
        rw [hA] at x36
        clear hra hp hgS
        go_upto_region 15 with (first | (refine step_load big_peer rfl (.tmp 43) rfl gp (op + k * 36) rfl p.L HPL.out HRA.out ?_) | (refine step_store big_peer rfl (.tmp 9) (.tmp 44) rfl wv.heap.size rfl p.L HPL.out p.one rfl 43 _ (Blk.new wv 43 _) rfl ?_; intro wp hbp hmp hsp; have HBP := Lib.hid hbp; have HMP := Lib.hid hmp; clear hbp hmp hsp) | fail)
        have HVP := Lib.hid (show Below wv.heap.size wv wp from Bm (Ba (B0 wv) _) HMP.out (fun i hi => by omega))
        have HYK := Lib.hid (pe_cells (blk_range HBP.out) HPE.out.k32).2.1
        have lp := HBP.out.lt
        clear x36 lm
        go_wp2_with (first | (refine step_load big_key rfl (.tmp 47) rfl wv.heap.size 1 rfl (bts p.ks) HLP.out (by have := HYK.out; rwa [Nat.zero_add] at this) ?_) | fail)
        refine (key_any S g m.node n m.ver qs p.ks wp (HTV.out.below HVP.out) hn1 HQN.out HPE.out.k32 HPE.out.kb).mono ?_
        rw [lkK_at_px HOK.out HPX.out HPM.out]
        rcases pk_at HOK.out HPX.out HPM.out n with ⟨hc, q, eq, eqx⟩ | ⟨hc, eq⟩
        · skip
          rw [eq]
          rintro e wk ⟨rfl, hbk⟩
          have HBK := Lib.hid (Bt HVP.out hbk)
          have HQK := Lib.hid (HBP.out.later hbk)
          have HTK := Lib.hid (HTV.out.below (Bt HVP.out hbk))
          have y0 := (pe_cells (blk_range HQK.out) HPE.out.k32).1
          have lq := HQK.out.lt
          clear hbk
          have eqn : ((some q).getD zPe).nd = p.nd := congrArg Px.nd eqx
          have eqk : bts ((some q).getD zPe).ks = bts p.ks := congrArg bts (congrArg Px.ks eqx)
          rw [eqn]
          go_wp2_with fail
          refine (by_any S g m.node n m.ver qs p.nd wk HTK.out hn1 (by have := HND.out; omega) (by have := HND.out; omega)).mono ?_
          rw [eq]
          rintro e wl ⟨rfl, hbl⟩
          rw [eqk]
          obtain ⟨KB, hKB⟩ : ∃ KB, KB = bts p.ks := ⟨_, rfl⟩
          rw [← hKB]
          have HKB := Lib.hid hKB
          have HLB := Lib.hid (show KB.length = 32 by rw [hKB, bts_length]; exact HPE.out.k32)
          have HOB := Lib.hid (show ∀ u ∈ KB, u.oneCell' = true by rw [hKB]; exact bts_one' _)
          have HBL := Lib.hid (Bt HBK.out hbl)
          have HQL := Lib.hid (HQK.out.later hbl)
          clear hbl hKB y0 lq
          go_upto_region 17 with (first | (refine step_store big_key rfl (.tmp 12) (.tmp 57) rfl wl.heap.size rfl KB HLB.out HOB.out rfl 31 _ (Blk.new wl 31 (bts z32).toArray) (by simp [bts, z32]) ?_; intro wm hb5 hm5 hs5; have HP5 := Lib.hid hb5; have HM5 := Lib.hid hm5; clear hb5 hm5 hs5) | fail)
          have hlm : Below wl.heap.size wl wm := Bm (Ba (B0 wl) _) HM5.out (fun i hi => by omega)
          have HBM := Lib.hid (Bt HBL.out hlm)
          have HQM := Lib.hid (HQL.out.later hlm)
          have z := pe_cells (blk_range HQM.out) HPE.out.k32
          simp only [Nat.zero_add] at z
          have y0 := z.1
          have y33 := z.2.2.1
          have HY1 := Lib.hid z.2.1
          have lq := HQM.out.lt
          have hd : decide (n < p.ex) = true := decide_eq_true hc
          clear z hlm
          go_wp2_with (first | (refine step_load big_key (by first | rfl | simp [Region.wanted, yielded]) (.tmp 12) rfl wl.heap.size 0 rfl KB HLB.out (blk_range HP5.out) ?_) | (refine step_load big_key (by first | rfl | simp [Region.wanted, yielded]) (.tmp 79) rfl wv.heap.size 1 rfl (bts p.ks) HLP.out HY1.out ?_) | (refine step_eqK (by first | rfl | simp [Region.wanted, yielded]) .neq (.inr rfl) (.tmp 78) (.tmp 80) rfl p.ks p.ks (by rw [← HKB.out]; rfl) rfl HPE.out.k32 HPE.out.k32 false (by rw [if_neg (by decide)]; simp) ?_) | fail)
          obtain ⟨hal, hav⟩ := ndsN_at hlt (tick := n) (by rw [← HP0.out]; exact hc)
          have hav2 : L[a]'(by rw [HA.out, HL.out]; exact hal) = p.nd := by simp only [HA.out, HL.out]; rw [hav, ← HP0.out]
          have hal2 : a < L.length := by rw [HA.out, HL.out]; exact hal
          obtain ⟨gl, ol, hAl, hgl, hcl⟩ := HRV.out.some_ (by omega)
          subst hAl
          have d0 : wm.cell? ⟨gl, ol + a, none⟩ = some (.int .i64 p.nd) := (HBM.out.cell (p := ⟨gl, ol + a, none⟩) (Nat.lt_of_lt_of_le hgl HBV.out.size)).trans (hcl a _ (by rw [ints_at L a hal2, hav2]))
          have hq1 : decide ((L.length : Int) ≤ (a : Int)) = false := decide_eq_false (by omega)
          have hq2 : (p.nd != p.nd) = false := by simp
          have ha0 : (0 : Int) ≤ (a : Int) := by omega
          have ha1 : (a : Int) < (L.length : Int) := by omega
          clear hcl hav hav2 hal
          go_quiet (fail)
          go_wp2_with fail
          go_roundw
          case rel => exact ⟨k + 1, by omega, by go_num, by rw [ndsN_take hlt, if_pos (by rw [← HP0.out]; exact hc), List.length_append, ← HA.out]; go_num, Bt HBV.out (BdN HBM.out _)⟩
          case measure => simp [intOf]; omega
        · skip
          rw [eq]
          rintro e wk ⟨rfl, hbk⟩
          have HBK := Lib.hid (Bt HVP.out hbk)
          have HQK := Lib.hid (HBP.out.later hbk)
          have HTK := Lib.hid (HTV.out.below (Bt HVP.out hbk))
          have y0 := (pe_cells (blk_range HQK.out) HPE.out.k32).1
          have lq := HQK.out.lt
          clear hbk
          rw [show ((none : Option Pe).getD zPe).nd = 0 from rfl]
          go_wp2_with fail
          refine (by_any S g m.node n m.ver qs p.nd wk HTK.out hn1 (by have := HND.out; omega) (by have := HND.out; omega)).mono ?_
          rw [eq]
          rintro e wl ⟨rfl, hbl⟩
          rw [show ((none : Option Pe).getD zPe).ks = z32 from rfl]
          obtain ⟨KB, hKB⟩ : ∃ KB, KB = bts z32 := ⟨_, rfl⟩
          rw [← hKB]
          have HKB := Lib.hid hKB
          have HLB := Lib.hid (show KB.length = 32 by rw [hKB, bts_length]; exact z32_len)
          have HOB := Lib.hid (show ∀ u ∈ KB, u.oneCell' = true by rw [hKB]; exact bts_one' _)
          have HBL := Lib.hid (Bt HBK.out hbl)
          have HQL := Lib.hid (HQK.out.later hbl)
          clear hbl hKB y0 lq
          go_upto_region 17 with (first | (refine step_store big_key rfl (.tmp 12) (.tmp 57) rfl wl.heap.size rfl KB HLB.out HOB.out rfl 31 _ (Blk.new wl 31 (bts z32).toArray) (by simp [bts, z32]) ?_; intro wm hb5 hm5 hs5; have HP5 := Lib.hid hb5; have HM5 := Lib.hid hm5; clear hb5 hm5 hs5) | fail)
          have hlm : Below wl.heap.size wl wm := Bm (Ba (B0 wl) _) HM5.out (fun i hi => by omega)
          have HBM := Lib.hid (Bt HBL.out hlm)
          have HQM := Lib.hid (HQL.out.later hlm)
          have z := pe_cells (blk_range HQM.out) HPE.out.k32
          simp only [Nat.zero_add] at z
          have y0 := z.1
          have y33 := z.2.2.1
          have HY1 := Lib.hid z.2.1
          have lq := HQM.out.lt
          have hd : decide (n < p.ex) = false := decide_eq_false (by omega)
          clear z hlm
          go_wp2_with fail
          go_roundw
          case rel => exact ⟨k + 1, by omega, by go_num, by rw [ndsN_take hlt, if_neg (by rw [← HP0.out]; omega), List.append_nil, ← HA.out], Bt HBV.out HBM.out⟩
          case measure => simp [intOf]; omega
      · obtain rfl : k = m.ps.length := by omega
        have hal : ((a : Int) == (L.length : Int)) = true := by rw [HA.out, HL.out, List.take_length]; simp
        go_wp2_with (first | (refine step_load big_key rfl (.tmp 103) rfl W.heap.size 3 rfl (bts m.ks) HLM.out (by have := HX3.out; rwa [Nat.zero_add] at this) ?_) | fail)
        refine (key_any S g m.node n m.ver qs m.ks wv HTV.out hn1 HQN.out HMK.out HMKB.out).mono ?_
        rw [lkK_none HOK.out HPX.out m.ks (fun p hp => (HOK.out.other p hp).2.2), pkN_none (fun q hq => by have := (HQN.out q hq).1; omega)]
        rintro e wk ⟨rfl, hbk⟩
        have HBK := Lib.hid (Bt (Bt HBC.out HBV.out) hbk)
        clear hbk
        go_wp2_with fail
        go_ret
        exact ⟨rfl, HBK.out⟩
theorem peersJust_walk {H : Type} {enc : TypeId × Value → H} (W : World) {base : Nat} {sp : Nat → Bool} {held : Bool} {v : Value} {d : DataW H} {pl : List MemPlace} (hv : Value.okWide Try.prog W .any base 34 v) (ht : DataW.Trod enc Try.prog W 0 sp held 34 v d pl)
    (hz : ∀ n ∈ d.weights Try.prog 34, n ≤ reachBytes) (n : Int) (w1 : (Lit.int .i64 n).wf = true) :
    Calls Try.prog 4 #[v, .int .i64 n] W fun e w' => e = .returned (.bool true) ∧ Below W.heap.size W w' := by
  obtain ⟨m, rfl, hm⟩ := open_map hv ht
  exact peersJust_at m n W hm
end Go.Proofs.Ytgmndppjdnpejaa
