/- The document's netmap: Check; what is the same. -/
import Derived.Test.YtgmndppjdnpejaaR2
namespace Go.Proofs.Ytgmndppjdnpejaa
open Go.RowKit
set_option maxRecDepth 20000
set_option linter.unusedVariables false
set_option linter.unusedSimpArgs false

theorem nmB_ref (m : Nm) : nmB m = (nuB m.ver && (nuB m.clock && (ndB m.node && (owB m.clock m.ks m.ex && rpB m.clock m.node m.ks m.ps)))) := by
  unfold nmB mayB owB rpB
  show (nuB m.ver && (nuB m.clock && (ndB m.node && (if m.ks = z32 then _ else _)))) = _
  by_cases h : m.ks = z32
  · rw [if_pos h, if_pos h, if_pos h]; rfl
  · rw [if_neg h, if_neg h, if_neg h]
    show (nuB m.ver && (nuB m.clock && (ndB m.node && (nuB m.ex && (decide (m.clock < m.ex) && goB m.clock m.node 0 [z32, m.ks] m.ps))))) = _
    rw [Bool.and_assoc (nuB m.ex)]
theorem rown_is {c ex : Int} {ks : List Int} {r : Bool} (h : owB c ks ex = r) (W : World) (hk : ks.length = 32) : Calls Try.prog 50 #[.int .i64 c, .agg (bts ks).toArray, .int .i64 ex] W fun e w' => e = .returned (.bool r) ∧ Below W.heap.size W w' := h ▸ own_any c ex ks W hk
theorem rpeers_is {S : Nat → Prop} {c n : Int} {ks : List Int} {r : Bool} {ps : List Pe} (h : rpB c n ks ps = r) (A : Option Addr) (cp : Nat) (W : World) (hk : ks.length = 32) (hr : Rd W S 36 (.slice A ps.length cp) ps.length (rowP ps)) (he : ∀ p ∈ ps, PeAt W S p) (hS : ∀ i, S i → i < W.heap.size) :
    Calls Try.prog 51 #[.slice A ps.length cp, .int .i64 c, .int .i64 n, .agg (bts ks).toArray] W fun e w' => e = .returned (.bool r) ∧ Below W.heap.size W w' := h ▸ rpeers_any S c n ks A cp ps W hk hr he hS
set_option maxHeartbeats 4000000 in
theorem rcheck_any (S : Nat → Prop) (m : Nm) (W : World) (hm : NmAt W S m) (hS : ∀ i, S i → i < W.heap.size) :
    Calls Try.prog 35 #[m.v] W fun e w' => e = .returned (.int .i64 (chkE m)) ∧ Below W.heap.size W w' := by
  obtain ⟨w1, hw1⟩ : ∃ u, u = W.alloc (.cells m.L.toArray 34) := ⟨_, rfl⟩
  have hb1 : Below W.heap.size W w1 := by rw [hw1]; exact Ba (B0 W) _
  have HG := Lib.hid (show Blk w1 W.heap.size 34 m.L.toArray by rw [hw1]; exact Blk.new _ _ _)
  have HB1 := Lib.hid hb1
  have HW1 := Lib.hid hw1
  have HM := Lib.hid (hm.below hb1 hS)
  have HS := Lib.hid (show ∀ i, S i → i < w1.heap.size from fun i hi => Nat.lt_of_lt_of_le (hS i hi) hb1.size)
  have HMK := Lib.hid hm.k32
  have HLK := Lib.hid (show (bts m.ks).length = 32 by rw [bts_length]; exact hm.k32)
  have HF := Lib.hid (nmB_ref m)
  obtain ⟨x0, x1, x2, xk, x35, x36⟩ := nm_cells (blk_range HG.out) hm.k32
  simp only [Nat.zero_add] at x0 x1 x2 xk x35 x36
  obtain ⟨ver, hver⟩ : ∃ x, x = m.ver := ⟨_, rfl⟩
  obtain ⟨clk, hclk⟩ : ∃ x, x = m.clock := ⟨_, rfl⟩
  obtain ⟨nd, hnd⟩ : ∃ x, x = m.node := ⟨_, rfl⟩
  obtain ⟨ex, hex⟩ : ∃ x, x = m.ex := ⟨_, rfl⟩
  rw [← hver] at x0 HF
  rw [← hclk] at x1 HF
  rw [← hnd] at x2 HF
  rw [← hex] at x35 HF
  have HXK := Lib.hid xk
  have lg := HG.out.lt
  obtain ⟨b1, q1⟩ : ∃ b, nuB ver = b := ⟨_, rfl⟩
  obtain ⟨b2, q2⟩ : ∃ b, nuB clk = b := ⟨_, rfl⟩
  obtain ⟨b3, q3⟩ : ∃ b, ndB nd = b := ⟨_, rfl⟩
  obtain ⟨b4, q4⟩ : ∃ b, owB clk m.ks ex = b := ⟨_, rfl⟩
  obtain ⟨b5, q5⟩ : ∃ b, rpB clk nd m.ks m.ps = b := ⟨_, rfl⟩
  rw [q1, q2, q3, q4, q5] at HF
  have HQ1 := Lib.hid q1
  have HQ2 := Lib.hid q2
  have HQ3 := Lib.hid q3
  have HQ4 := Lib.hid q4
  have HQ5 := Lib.hid q5
  clear hm hS hb1 hw1 xk hver hclk hnd hex q1 q2 q3 q4 q5
  go_enter Try.func35, Try.ntmps35
  go_upto_region 1 with fail
  change Code.wp _ _ _ _ (W.alloc (.cells m.L.toArray 34))
  rw [← HW1.out]
  go_wp2_with fail
  refine (rnumber_is HQ1.out w1).mono ?_
  rintro e w' ⟨rfl, rfl⟩
  cases b1
  · go_wp2_with fail
    go_ret
    exact ⟨ret_int (chkE_bad (by rw [HF.out]; simp)).symm, HB1.out⟩
  · go_wp2_with fail
    refine (rnumber_is HQ2.out w1).mono ?_
    rintro e w' ⟨rfl, rfl⟩
    cases b2
    · go_wp2_with fail
      go_ret
      exact ⟨ret_int (chkE_bad (by rw [HF.out]; simp)).symm, HB1.out⟩
    · go_wp2_with fail
      refine (rnode_is HQ3.out w1).mono ?_
      rintro e w' ⟨rfl, rfl⟩
      cases b3
      · go_wp2_with fail
        go_ret
        exact ⟨ret_int (chkE_bad (by rw [HF.out]; simp)).symm, HB1.out⟩
      · go_wp2_with (first | (refine step_load big_key (by first | rfl | simp [Region.wanted, yielded]) (.tmp 22) rfl W.heap.size 3 rfl (bts m.ks) HLK.out HXK.out ?_) | fail)
        refine (rown_is HQ4.out w1 HMK.out).mono ?_
        rintro e w2 ⟨rfl, hb2⟩
        have HB2 := Lib.hid (Bt HB1.out hb2)
        have HG2 := Lib.hid (HG.out.later hb2)
        have HM2 := Lib.hid (HM.out.below hb2 HS.out)
        have HS2 := Lib.hid (show ∀ i, S i → i < w2.heap.size from fun i hi => Nat.lt_of_lt_of_le (HS.out i hi) hb2.size)
        obtain ⟨y0, y1, y2, yk, y35, y36⟩ := nm_cells (blk_range HG2.out) HMK.out
        simp only [Nat.zero_add] at y0 y1 y2 yk y35 y36
        have HYK := Lib.hid yk
        have e1 : some (Value.int .i64 m.clock) = some (.int .i64 clk) := by rw [← x1]; exact y1.symm.trans (HG2.out.cell 1 ▸ (HG.out.cell 1).symm ▸ rfl)
        have e2 : some (Value.int .i64 m.node) = some (.int .i64 nd) := by rw [← x2]; exact y2.symm.trans (HG2.out.cell 2 ▸ (HG.out.cell 2).symm ▸ rfl)
        rw [e1] at y1
        rw [e2] at y2
        have lg2 := HG2.out.lt
        clear hb2 yk e1 e2
        cases b4
        · go_wp2_with fail
          go_ret
          exact ⟨ret_int (chkE_bad (by rw [HF.out]; simp)).symm, HB2.out⟩
        · go_wp2_with (first | (refine step_load big_key (by first | rfl | simp [Region.wanted, yielded]) (.tmp 36) rfl W.heap.size 3 rfl (bts m.ks) HLK.out HYK.out ?_) | fail)
          refine (rpeers_is HQ5.out m.PA m.pc w2 HMK.out HM2.out.rp HM2.out.each HS2.out).mono ?_
          rintro e w3 ⟨rfl, hb3⟩
          have HB3 := Lib.hid (Bt HB2.out hb3)
          clear hb3
          cases b5
          · go_wp2_with fail
            go_ret
            exact ⟨ret_int (chkE_bad (by rw [HF.out]; simp)).symm, HB3.out⟩
          · go_wp2_with fail
            go_ret
            exact ⟨ret_int (chkE_ok (by rw [HF.out]; rfl)).symm, HB3.out⟩

/-- Two lists of spans that are the same. -/
theorem spans_same (S T : Nat → Prop) (A1 A2 : Option Addr) (c1 c2 : Nat) (l : List Sp) (w : World) (h1 : Rd w S 2 (.slice A1 l.length c1) l.length (rowS l)) (h2 : Rd w T 2 (.slice A2 l.length c2) l.length (rowS l)) :
    Calls Try.prog 62 #[.slice A1 l.length c1, .slice A2 l.length c2] w fun e w' => e = .returned (.bool true) ∧ ∃ n, w' = w.drewN n := by
  have hcap := h1.cap.2
  have hc1 := hcap.1
  have hc2 := hcap.2
  unfold maxLen at hc2
  have H1 := Lib.hid h1
  have H2 := Lib.hid h2
  clear h1 h2 hcap
  go_enter Try.func62, Try.ntmps62
  go_wp2_with fail
  go_loopw [5] (fun i wr => ∃ k : Nat, k ≤ l.length ∧ i = .int .i64 k ∧ ∃ n, wr = w.drewN n) (fun i _ => l.length - (intOf i).toNat)
  case atStart => exact ⟨0, by omega, rfl, 0, rfl⟩
  case round =>
    obtain ⟨k, hk, rfl, n, rfl⟩ := hrel
    by_cases hlt : k < l.length
    · have hlt' : (k : Int) < (l.length : Int) := by omega
      have hk0 : (0 : Int) ≤ (k : Int) := by omega
      obtain ⟨g1, o1, hA1, _, c0, d0⟩ := span_at H1.out hlt
      obtain ⟨g2, o2, hA2, _, c1', d1⟩ := span_at H2.out hlt
      subst hA1 hA2
      obtain ⟨lo, hlo⟩ : ∃ x, x = (l[k]).lo := ⟨_, rfl⟩
      obtain ⟨hi, hhi⟩ : ∃ x, x = (l[k]).hi := ⟨_, rfl⟩
      rw [← hlo] at c0 c1'
      rw [← hhi] at d0 d1
      clear hlo hhi
      go_wp2
      go_quiet (fail)
      go_wp2
      go_roundw
      case rel => exact ⟨k + 1, by omega, by go_num, n + nq, rfl⟩
      case measure => simp [intOf]; omega
    · obtain rfl : k = l.length := by omega
      go_wp2_with fail
      go_ret
      exact ⟨rfl, n, rfl⟩
end Go.Proofs.Ytgmndppjdnpejaa
