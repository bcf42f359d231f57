/- The document's netmap: two that are the same. -/
import Derived.Test.YtgmndppjdnpejaaR3
namespace Go.Proofs.Ytgmndppjdnpejaa
open Go.RowKit
set_option maxRecDepth 20000
set_option linter.unusedVariables false
set_option linter.unusedSimpArgs false

set_option maxHeartbeats 2000000 in
theorem samepeer_same (S T : Nat → Prop) (p q : Pe) (W : World) (hp : PeAt W S p) (hq : PeAt W T q) (hS : ∀ i, S i → i < W.heap.size) (hT : ∀ i, T i → i < W.heap.size) (h : p.px = q.px) :
    Calls Try.prog 52 #[p.v, q.v] W fun e w' => e = .returned (.bool true) ∧ Below W.heap.size W w' := by
  have h1 : q.nd = p.nd := (congrArg Px.nd h).symm
  have h2 : q.ks = p.ks := (congrArg Px.ks h).symm
  have h3 : q.ex = p.ex := (congrArg Px.ex h).symm
  have h4 : q.ins = p.ins := (congrArg Px.ins h).symm
  have h5 : q.outs = p.outs := (congrArg Px.outs h).symm
  obtain ⟨w1, hw1⟩ : ∃ u, u = (W.alloc (.cells p.L.toArray 43)).alloc (.cells q.L.toArray 43) := ⟨_, rfl⟩
  have HGP := Lib.hid (show Blk w1 W.heap.size 43 p.L.toArray by rw [hw1]; exact (Blk.new W _ _).alloc _)
  have HGQ := Lib.hid (show Blk w1 (W.heap.size + 1) 43 q.L.toArray by rw [hw1]; exact Blk.new1 W _ _ _)
  have hb1 : Below W.heap.size W w1 := by rw [hw1]; exact Ba (Ba (B0 W) _) _
  have HB1 := Lib.hid hb1
  have HW1 := Lib.hid hw1
  have HP := Lib.hid (hp.below hb1 hS)
  have HQ := Lib.hid (hq.below hb1 hT)
  have HLK := Lib.hid (show (bts p.ks).length = 32 by rw [bts_length]; exact hp.k32)
  have HPK := Lib.hid hp.k32
  obtain ⟨x0, xk, x33, x34, x35⟩ := pe_cells (blk_range HGP.out) hp.k32
  obtain ⟨y0, yk, y33, y34, y35⟩ := pe_cells (blk_range HGQ.out) hq.k32
  simp only [Nat.zero_add] at x0 xk x33 x34 x35 y0 yk y33 y34 y35
  have hri := HQ.out.ri
  have hro := HQ.out.ro
  rw [h1] at y0
  rw [h2] at yk
  rw [h3] at y33
  rw [h4] at y34 hri
  rw [h5] at y35 hro
  have HRI := Lib.hid hri
  have HRO := Lib.hid hro
  have HXK := Lib.hid xk
  have HYK := Lib.hid yk
  obtain ⟨nd, hnd⟩ : ∃ x, x = p.nd := ⟨_, rfl⟩
  obtain ⟨ex, hex⟩ : ∃ x, x = p.ex := ⟨_, rfl⟩
  rw [← hnd] at x0 y0
  rw [← hex] at x33 y33
  have lp := HGP.out.lt
  have lq := HGQ.out.lt
  clear h h1 h2 h3 h4 h5 hw1 hb1 hp hq hri hro xk yk hnd hex hS hT
  go_enter Try.func52, Try.ntmps52
  go_upto_region 1 with fail
  change Code.wp _ _ _ _ ((W.alloc (.cells p.L.toArray 43)).alloc (.cells q.L.toArray 43))
  rw [← HW1.out]
  go_wp2_with (first | (refine step_load big_key (by first | rfl | simp [Region.wanted, yielded]) (.tmp 11) rfl W.heap.size 1 rfl (bts p.ks) HLK.out HXK.out ?_) | (refine step_load big_key (by first | rfl | simp [Region.wanted, yielded]) (.tmp 13) rfl (W.heap.size + 1) 1 rfl (bts p.ks) HLK.out HYK.out ?_) | (refine step_eqK (by first | rfl | simp [Region.wanted, yielded]) .eql (.inl rfl) (.tmp 12) (.tmp 14) rfl p.ks p.ks rfl rfl HPK.out HPK.out true (by rw [if_pos rfl]; simp) ?_) | fail)
  refine (spans_same S T p.IA q.IA p.ic q.ic p.ins w1 HP.out.ri HRI.out).mono ?_
  rintro e w2 ⟨rfl, n2, rfl⟩
  go_wp2_with fail
  refine (spans_same S T p.OA q.OA p.oc q.oc p.outs _ (HP.out.ro.kept ((Mod.refl (fun _ => False) w1).drewN n2) (fun _ _ h => h)) (HRO.out.kept ((Mod.refl (fun _ => False) w1).drewN n2) (fun _ _ h => h))).mono ?_
  rintro e w3 ⟨rfl, n3, rfl⟩
  go_wp2_with fail
  go_ret
  exact ⟨rfl, BdN HB1.out _⟩

theorem px_at {ps qs : List Pe} (h : qs.map Pe.px = ps.map Pe.px) {k : Nat} (hp : k < ps.length) (hq : k < qs.length) : (qs[k]).px = (ps[k]).px := by
  have := congrArg (fun l => l[k]?) h
  simpa [hp, hq] using this
theorem px_len {ps qs : List Pe} (h : qs.map Pe.px = ps.map Pe.px) : qs.length = ps.length := by simpa using congrArg List.length h

set_option maxHeartbeats 2000000 in
theorem samepeers_same (S T : Nat → Prop) (A1 A2 : Option Addr) (c1 c2 : Nat) (ps qs : List Pe) (W : World) (h1 : Rd W S 36 (.slice A1 ps.length c1) ps.length (rowP ps)) (h2 : Rd W T 36 (.slice A2 qs.length c2) qs.length (rowP qs)) (e1 : ∀ p ∈ ps, PeAt W S p) (e2 : ∀ p ∈ qs, PeAt W T p)
    (hS : ∀ i, S i → i < W.heap.size) (hT : ∀ i, T i → i < W.heap.size) (hpx : qs.map Pe.px = ps.map Pe.px) :
    Calls Try.prog 36 #[.slice A1 ps.length c1, .slice A2 qs.length c2] W fun e w' => e = .returned (.bool true) ∧ Below W.heap.size W w' := by
  have hcap := h1.cap.2
  have hc1 := hcap.1
  have hc2 := hcap.2
  unfold maxLen at hc2
  have H1 := Lib.hid h1
  have H2 := Lib.hid h2
  have E1 := Lib.hid e1
  have E2 := Lib.hid e2
  have HS := Lib.hid hS
  have HT := Lib.hid hT
  have HPX := Lib.hid hpx
  have hln := px_len hpx
  rw [hln]
  clear h1 h2 e1 e2 hS hT hpx hcap
  have HLN := Lib.hid hln
  clear hln
  go_enter Try.func36, Try.ntmps36
  go_wp2_with fail
  go_loopw [5] (fun i wr => ∃ k : Nat, k ≤ ps.length ∧ i = .int .i64 k ∧ Below W.heap.size W wr) (fun i _ => ps.length - (intOf i).toNat)
  case atStart => exact ⟨0, by omega, rfl, B0 _⟩
  case round =>
    obtain ⟨k, hk, rfl, hb⟩ := hrel
    obtain ⟨wv, rfl⟩ : ∃ wv, wv = wr := ⟨_, rfl⟩
    have HB := Lib.hid hb
    by_cases hlt : k < ps.length
    · have hlt' : (k : Int) < (ps.length : Int) := by omega
      have hk0 : (0 : Int) ≤ (k : Int) := by omega
      have hlq : k < qs.length := by have := HLN.out; omega
      obtain ⟨gp, op, hA, hgp, hra⟩ := row_at (H1.out.below hb HS.out) (rowP_n E1.out) hlt
      obtain ⟨gq, oq, hB, hgq, hrb⟩ := row_at (H2.out.below hb HT.out) (rowP_n E2.out) hlq
      subst hA hB
      have HPX1 := Lib.hid (px_at HPX.out hlt hlq)
      have HPE := Lib.hid ((E1.out _ (List.getElem_mem hlt)).below hb HS.out)
      have HQE := Lib.hid ((E2.out _ (List.getElem_mem hlq)).below hb HT.out)
      obtain ⟨p, hp⟩ : ∃ p, p = ps[k] := ⟨_, rfl⟩
      obtain ⟨q, hq⟩ : ∃ q, q = qs[k] := ⟨_, rfl⟩
      rw [← hp] at hra HPE HPX1
      rw [← hq] at hrb HQE HPX1
      have HRA := Lib.hid hra
      have HRB := Lib.hid hrb
      have HPL := Lib.hid (Pe.len HPE.out.k32)
      have HQL := Lib.hid (Pe.len HQE.out.k32)
      have HSV := Lib.hid (show ∀ i, S i → i < wv.heap.size from fun i hi => Nat.lt_of_lt_of_le (HS.out i hi) hb.size)
      have HTV := Lib.hid (show ∀ i, T i → i < wv.heap.size from fun i hi => Nat.lt_of_lt_of_le (HT.out i hi) hb.size)
      have lgp := HSV.out gp hgp
      have lgq := HTV.out gq hgq
      clear hp hq hra hrb hb hgp hgq
      go_wp2_with fail
      refine wp_region_held_drew (S := fun w' => w'.rangeAt gp (op + k * 36) p.L ∧ w'.rangeAt gq (oq + k * 36) q.L ∧ Below wv.heap.size wv w') (by kernel_rfl) (⟨HRA.out, HRB.out, Bd (B0 wv)⟩) (fun hHeld => ?_)
      refine wpAnyH_take (i := 0) (v := ?_) rfl (by kernel_rfl) (by kernel_rfl) (by kernel_rfl) (fun _ _ _ h => h) (Or.inl ⟨by kernel_rfl, ?_⟩) (by assumption) ?_
      rotate_left 1
      · (intro w hSw; (try dsimp only at hSw); go_simp; try with_reducible rfl)
      try simp only [Act.put, List.getElem_toArray, List.getElem_cons_succ, List.getElem_cons_zero, List.setIfInBounds_toArray, List.set_cons_zero, List.set_cons_succ]
      refine wpAnyH_take (i := 1) (v := ?_) rfl (by kernel_rfl) (by kernel_rfl) (by kernel_rfl) (fun _ _ _ h => h) (Or.inl ⟨by kernel_rfl, ?_⟩) (by assumption) ?_
      rotate_left 1
      · (intro w hSw; (try dsimp only at hSw); go_simp; try with_reducible rfl)
      try simp only [Act.put, List.getElem_toArray, List.getElem_cons_succ, List.getElem_cons_zero, List.setIfInBounds_toArray, List.set_cons_zero, List.set_cons_succ]
      refine wpAnyH_take (i := 2) (v := ?_) rfl (by kernel_rfl) (by kernel_rfl) (by kernel_rfl) (fun _ _ _ h => h) (Or.inl ⟨by kernel_rfl, ?_⟩) (by assumption) ?_
      rotate_left 1
      · (intro w hSw; (try dsimp only at hSw); go_simp; try with_reducible rfl)
      try simp only [Act.put, List.getElem_toArray, List.getElem_cons_succ, List.getElem_cons_zero, List.setIfInBounds_toArray, List.set_cons_zero, List.set_cons_succ]
      refine wpAnyH_take (i := 3) (v := ?_) rfl (by kernel_rfl) (by kernel_rfl) (by kernel_rfl) (fun _ _ _ h => h) (Or.inl ⟨by kernel_rfl, ?_⟩) (by assumption) ?_
      rotate_left 1
      · (intro w hSw; refine exec_load big_peer (.tmp 19) ?_ gp (op + k * 36) ?_ p.L HPL.out hSw.1 <;> rfl)
      try simp only [Act.put, List.getElem_toArray, List.getElem_cons_succ, List.getElem_cons_zero, List.setIfInBounds_toArray, List.set_cons_zero, List.set_cons_succ]
      refine wpAnyH_take (i := 4) (v := ?_) rfl (by kernel_rfl) (by kernel_rfl) (by kernel_rfl) (fun _ _ _ h => h) (Or.inl ⟨by kernel_rfl, ?_⟩) (by assumption) ?_
      rotate_left 1
      · (intro w hSw; (try dsimp only at hSw); go_simp; try with_reducible rfl)
      try simp only [Act.put, List.getElem_toArray, List.getElem_cons_succ, List.getElem_cons_zero, List.setIfInBounds_toArray, List.set_cons_zero, List.set_cons_succ]
      refine wpAnyH_take (i := 5) (v := ?_) rfl (by kernel_rfl) (by kernel_rfl) (by kernel_rfl) (fun _ _ _ h => h) (Or.inl ⟨by kernel_rfl, ?_⟩) (by assumption) ?_
      rotate_left 1
      · (intro w hSw; (try dsimp only at hSw); go_simp; try with_reducible rfl)
      try simp only [Act.put, List.getElem_toArray, List.getElem_cons_succ, List.getElem_cons_zero, List.setIfInBounds_toArray, List.set_cons_zero, List.set_cons_succ]
      refine wpAnyH_take (i := 6) (v := ?_) rfl (by kernel_rfl) (by kernel_rfl) (by kernel_rfl) (fun _ _ _ h => h) (Or.inl ⟨by kernel_rfl, ?_⟩) (by assumption) ?_
      rotate_left 1
      · (intro w hSw; (try dsimp only at hSw); go_simp; try with_reducible rfl)
      try simp only [Act.put, List.getElem_toArray, List.getElem_cons_succ, List.getElem_cons_zero, List.setIfInBounds_toArray, List.set_cons_zero, List.set_cons_succ]
      refine wpAnyH_take (i := 7) (v := ?_) rfl (by kernel_rfl) (by kernel_rfl) (by kernel_rfl) (fun _ _ _ h => h) (Or.inl ⟨by kernel_rfl, ?_⟩) (by assumption) ?_
      rotate_left 1
      · (intro w hSw; refine exec_load big_peer (.tmp 23) ?_ gq (oq + k * 36) ?_ q.L HQL.out hSw.2.1 <;> rfl)
      try simp only [Act.put, List.getElem_toArray, List.getElem_cons_succ, List.getElem_cons_zero, List.setIfInBounds_toArray, List.set_cons_zero, List.set_cons_succ]
      refine wpAnyH_ready (rs := [8]) (by kernel_rfl) (by simp) ?_
      refine AllReadyH.cons rfl (fun K hK => ?_) AllReadyH.nil
      go_simp
      refine (samepeer_same S T p q _ (HPE.out.below hHeld.2.2 HSV.out) (HQE.out.below hHeld.2.2 HTV.out) (fun i hi => Nat.lt_of_lt_of_le (HSV.out i hi) hHeld.2.2.size) (fun i hi => Nat.lt_of_lt_of_le (HTV.out i hi) hHeld.2.2.size) HPX1.out.symm).mono ?_; rintro e w5 ⟨rfl, hb5⟩; have HB5 := Lib.hid (Bt hHeld.2.2 hb5); clear hb5; dsimp only
      refine hK.out _ _ (⟨range_below HRA.out HB5.out lgp, range_below HRB.out HB5.out lgq, HB5.out⟩) (fun hHeld => ?_)
      clear hK K
      try simp only [Act.put, List.getElem_toArray, List.getElem_cons_succ, List.getElem_cons_zero, List.setIfInBounds_toArray, List.set_cons_zero, List.set_cons_succ]
      refine wpAnyH_take (i := 9) (v := ?_) rfl (by kernel_rfl) (by kernel_rfl) (by kernel_rfl) (fun _ _ _ h => h) (Or.inl ⟨by kernel_rfl, ?_⟩) (by assumption) ?_
      rotate_left 1
      · (intro w hSw; (try dsimp only at hSw); go_simp; try with_reducible rfl)
      try simp only [Act.put, List.getElem_toArray, List.getElem_cons_succ, List.getElem_cons_zero, List.setIfInBounds_toArray, List.set_cons_zero, List.set_cons_succ]
      refine wpAnyH_done (by kernel_rfl) ?_ _
      go_wp2_with fail
      go_roundw
      case rel => exact ⟨k + 1, by omega, by go_num, Bt HB.out hHeld.2.2⟩
      case measure => simp [intOf]; omega
    · obtain rfl : k = ps.length := by omega
      clear hb
      go_wp2_with fail
      go_ret
      exact ⟨rfl, HB.out⟩
set_option maxHeartbeats 2000000 in
theorem same_same (S T : Nat → Prop) (m n : Nm) (W : World) (hm : NmAt W S m) (hn : NmAt W T n) (hS : ∀ i, S i → i < W.heap.size) (hT : ∀ i, T i → i < W.heap.size) (h1 : n.ver = m.ver) (h2 : n.clock = m.clock) (h3 : n.node = m.node) (h4 : n.ks = m.ks) (h5 : n.ex = m.ex) (h6 : n.ps.map Pe.px = m.ps.map Pe.px) :
    Calls Try.prog 15 #[m.v, n.v] W fun e w' => e = .returned (.bool true) ∧ Below W.heap.size W w' := by
  obtain ⟨w1, hw1⟩ : ∃ u, u = (W.alloc (.cells m.L.toArray 34)).alloc (.cells n.L.toArray 34) := ⟨_, rfl⟩
  have HGP := Lib.hid (show Blk w1 W.heap.size 34 m.L.toArray by rw [hw1]; exact (Blk.new W _ _).alloc _)
  have HGQ := Lib.hid (show Blk w1 (W.heap.size + 1) 34 n.L.toArray by rw [hw1]; exact Blk.new1 W _ _ _)
  have hb1 : Below W.heap.size W w1 := by rw [hw1]; exact Ba (Ba (B0 W) _) _
  have HB1 := Lib.hid hb1
  have HW1 := Lib.hid hw1
  have HM := Lib.hid (hm.below hb1 hS)
  have HN := Lib.hid (hn.below hb1 hT)
  have HLK := Lib.hid (show (bts m.ks).length = 32 by rw [bts_length]; exact hm.k32)
  have HPK := Lib.hid hm.k32
  have HS1 := Lib.hid (show ∀ i, S i → i < w1.heap.size from fun i hi => Nat.lt_of_lt_of_le (hS i hi) hb1.size)
  have HT1 := Lib.hid (show ∀ i, T i → i < w1.heap.size from fun i hi => Nat.lt_of_lt_of_le (hT i hi) hb1.size)
  have HPX := Lib.hid h6
  obtain ⟨x0, x1, x2, xk, x35, x36⟩ := nm_cells (blk_range HGP.out) hm.k32
  obtain ⟨y0, y1, y2, yk, y35, y36⟩ := nm_cells (blk_range HGQ.out) hn.k32
  simp only [Nat.zero_add] at x0 x1 x2 xk x35 x36 y0 y1 y2 yk y35 y36
  rw [h1] at y0
  rw [h2] at y1
  rw [h3] at y2
  rw [h4] at yk
  rw [h5] at y35
  have HXK := Lib.hid xk
  have HYK := Lib.hid yk
  obtain ⟨ver, hver⟩ : ∃ x, x = m.ver := ⟨_, rfl⟩
  obtain ⟨clk, hclk⟩ : ∃ x, x = m.clock := ⟨_, rfl⟩
  obtain ⟨nd, hnd⟩ : ∃ x, x = m.node := ⟨_, rfl⟩
  obtain ⟨ex, hex⟩ : ∃ x, x = m.ex := ⟨_, rfl⟩
  rw [← hver] at x0 y0
  rw [← hclk] at x1 y1
  rw [← hnd] at x2 y2
  rw [← hex] at x35 y35
  have lp := HGP.out.lt
  have lq := HGQ.out.lt
  clear h1 h2 h3 h4 h5 h6 hw1 hb1 hm hn xk yk hver hclk hnd hex hS hT
  go_enter Try.func15, Try.ntmps15
  go_upto_region 1 with fail
  change Code.wp _ _ _ _ ((W.alloc (.cells m.L.toArray 34)).alloc (.cells n.L.toArray 34))
  rw [← HW1.out]
  go_wp2_with (first | (refine step_load big_key (by first | rfl | simp [Region.wanted, yielded]) (.tmp 25) rfl W.heap.size 3 rfl (bts m.ks) HLK.out HXK.out ?_) | (refine step_load big_key (by first | rfl | simp [Region.wanted, yielded]) (.tmp 27) rfl (W.heap.size + 1) 3 rfl (bts m.ks) HLK.out HYK.out ?_) | (refine step_eqK (by first | rfl | simp [Region.wanted, yielded]) .eql (.inl rfl) (.tmp 26) (.tmp 28) rfl m.ks m.ks rfl rfl HPK.out HPK.out true (by rw [if_pos rfl]; simp) ?_) | fail)
  refine (samepeers_same S T m.PA n.PA m.pc n.pc m.ps n.ps w1 HM.out.rp HN.out.rp HM.out.each HN.out.each HS1.out HT1.out HPX.out).mono ?_
  rintro e w2 ⟨rfl, hb2⟩
  have HB2 := Lib.hid (Bt HB1.out hb2)
  clear hb2
  go_wp2_with fail
  go_ret
  exact ⟨rfl, HB2.out⟩
end Go.Proofs.Ytgmndppjdnpejaa
