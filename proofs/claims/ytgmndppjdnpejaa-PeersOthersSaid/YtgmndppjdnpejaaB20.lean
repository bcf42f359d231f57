/- Nodes that are no peers have no key, and no ports: PeersOthers. -/
import Derived.Test.YtgmndppjdnpejaaB19
namespace Go.Proofs.Ytgmndppjdnpejaa
open Go.RowKit
set_option maxRecDepth 20000
set_option linter.unusedVariables false
set_option linter.unusedSimpArgs false

theorem build_k0 (w : World) : (Instr.build 31 ([] : List (Nat × Value)).toArray).run Try.prog w = .ok (.agg (bts z32).toArray) w := by kernel_rfl
set_option maxHeartbeats 2000000 in
theorem peersOthers_at (m : Nm) (node port : Int) (W : World) (hm : NmAt W (fun i => i < W.heap.size) m) (h0 : -9223372036854775808 ≤ node) (h1 : node ≤ 9223372036854775807) :
    Calls Try.prog 8 #[m.v, .int .i64 node, .int .i64 port] W fun e w' => e = .returned (.bool true) ∧ Below W.heap.size W w' := by
  obtain ⟨w1, hw1⟩ : ∃ u, u = W.alloc (.cells m.L.toArray 34) := ⟨_, rfl⟩
  have hb1 : Below W.heap.size W w1 := by rw [hw1]; exact Ba (B0 W) _
  have HG := Lib.hid (show Blk w1 W.heap.size 34 m.L.toArray by rw [hw1]; exact Blk.new _ _ _)
  have HB1 := Lib.hid hb1
  have HW1 := Lib.hid hw1
  have HM := Lib.hid (hm.below hb1 (fun _ h => h))
  have HML := Lib.hid (Nm.len hm.k32)
  have HMK := Lib.hid hm.k32
  obtain ⟨K0, hK0⟩ : ∃ K, K = bts z32 := ⟨_, rfl⟩
  have HBK := Lib.hid (show ∀ w, (Instr.build 31 ([] : List (Nat × Value)).toArray).run Try.prog w = .ok (.agg K0.toArray) w by rw [hK0]; exact build_k0)
  have HK0 := Lib.hid hK0
  have HLK := Lib.hid (show K0.length = 32 by rw [hK0, bts_length]; exact z32_len)
  have HKO := Lib.hid (show ∀ u ∈ K0, u.oneCell' = true by rw [hK0]; exact bts_one' _)
  clear hm hb1 hw1 hK0
  go_enter Try.func8, Try.ntmps8
  go_upto_region 1 with fail
  change Code.wp _ _ _ _ (W.alloc (.cells m.L.toArray 34))
  rw [← HW1.out]
  go_wp2_with fail
  refine (works_any w1).mono ?_
  rintro e w2 ⟨rfl, hb2⟩
  have HB2 := Lib.hid (Bt HB1.out hb2)
  have HG2 := Lib.hid (HG.out.later hb2)
  have HM2 := Lib.hid (HM.out.below hb2 (fun i hi => by have := HB1.out.size; omega))
  clear hb2
  go_wp2_with (first | (refine step_load big_map rfl (.tmp 3) rfl W.heap.size 0 rfl m.L HML.out (blk_range HG2.out) ?_) | fail)
  refine (table_any _ m w2 HM2.out (fun i hi => Nat.lt_of_lt_of_le hi HB2.out.size)).mono ?_
  rintro e w3 (⟨hno, rfl, hb3⟩ | ⟨hyes, g, S, qs, rfl, ht, hpx, hb3, hSB⟩)
  · have HB3 := Lib.hid (Bt HB2.out hb3)
    clear hb3 hno
    go_wp2_with fail
    go_ret
    exact ⟨rfl, HB3.out⟩
  · have HB3 := Lib.hid (Bt HB2.out hb3)
    have HT := Lib.hid ht
    have HPX := Lib.hid hpx
    have HOK := Lib.hid (nm_ok hyes)
    have HG3 := Lib.hid (HG2.out.later hb3)
    have HM3 := Lib.hid (HM2.out.below hb3 (fun i hi => Nat.lt_of_lt_of_le hi HB2.out.size))
    have hcap := HM3.out.rp.cap.2
    have hc1 := hcap.1
    have hc2 := hcap.2
    unfold maxLen at hc2
    have x36 := (nm_cells (blk_range HG3.out) HMK.out).2.2.2.2.2
    rw [Nat.zero_add] at x36
    have lm := HG3.out.lt
    clear hb3 ht hpx hyes hcap hSB
    go_wp2_with fail
    go_loopw [8] (fun i wr => ∃ k : Nat, k ≤ m.ps.length ∧ i = .int .i64 k ∧ (∀ j (hj : j < m.ps.length), j < k → (m.ps[j]).nd ≠ node) ∧ wr = w3) (fun i _ => m.ps.length - (intOf i).toNat)
    case atStart => exact ⟨0, by omega, rfl, fun j _ hj => absurd hj (Nat.not_lt_zero _), rfl⟩
    case round =>
      obtain ⟨k, hk, rfl, hne, rfl⟩ := hrel
      have HNE := Lib.hid hne
      clear hne
      by_cases hlt : k < m.ps.length
      · have hlt' : (k : Int) < (m.ps.length : Int) := by omega
        have hk0 : (0 : Int) ≤ (k : Int) := by omega
        obtain ⟨gp, op, hA, hgS, hra⟩ := row_at HM3.out.rp (rowP_n HM3.out.each) hlt
        obtain ⟨p, hp⟩ : ∃ p, p = m.ps[k] := ⟨_, rfl⟩
        rw [← hp] at hra
        have HP := Lib.hid hp
        have hpc := (pe_cells hra (by rw [hp]; exact (HM3.out.each _ (List.getElem_mem hlt)).k32)).1
        rw [hA] at x36
        clear hp hra hgS
        by_cases hq : p.nd = node
        · have hq' : (p.nd == node) = true := by simp [hq]
          clear hq
          go_wp2_with fail
          go_ret
          exact ⟨rfl, HB3.out⟩
        · have hq' : (p.nd == node) = false := by simp [hq]
          have HQ := Lib.hid hq
          clear hq
          go_wp2_with fail
          go_roundw
          case rel =>
            refine ⟨k + 1, by omega, by go_num, fun j hj hjk => ?_, trivial⟩
            by_cases e : j = k
            · subst e; rw [← HP.out]; exact HQ.out
            · exact HNE.out j hj (by omega)
          case measure => simp [intOf]; omega
      · obtain rfl : k = m.ps.length := by omega
        have HNN := Lib.hid (show ∀ p ∈ qs, p.nd ≠ node from fun p hp => by
          obtain ⟨q, hq, e⟩ := mem_px HPX.out hp
          obtain ⟨j, hj, hjq⟩ := List.getElem_of_mem hq
          have := HNE.out j hj hj
          rw [hjq] at this
          rw [show p.nd = q.nd from congrArg Px.nd e]
          exact this)
        have HPN := Lib.hid (pkN_none (tick := 0) HNN.out)
        have hn1 := HOK.out.node.1
        go_wp2_with fail
        refine (by_any S g m.node 0 m.ver qs node wr HT.out hn1 h0 h1).mono ?_
        rw [HPN.out]
        rintro e w4 ⟨rfl, hb4⟩
        rw [show bts ((none : Option Pe).getD zPe).ks = K0 by rw [HK0.out]; rfl]
        replace HT := Lib.hid (HT.out.below hb4)
        replace HB3 := Lib.hid (Bt HB3.out hb4)
        clear hb4 lm x36
        go_wp2_with (first | (refine step_store big_key rfl (.tmp 9) (.tmp 36) rfl w4.heap.size rfl K0 HLK.out HKO.out rfl 31 _ (Blk.new w4 31 (bts z32).toArray) (by simp [bts, z32]) ?_; intro w5 hb5 hm5 hs5; have HP5 := Lib.hid hb5; have HM5 := Lib.hid hm5; clear hb5 hm5 hs5) | (refine step_load big_key (by first | rfl | simp [Region.wanted, yielded]) (.tmp 9) rfl w4.heap.size 0 rfl K0 HLK.out (blk_range HP5.out) ?_) | (refine step_build (t := 31) (by first | rfl | simp [Region.wanted, yielded]) _ rfl [] rfl K0.toArray (HBK.out _) ?_) | (refine step_eqK (by first | rfl | simp [Region.wanted, yielded]) .eql (.inl rfl) (.tmp 41) (.tmp 42) rfl z32 z32 (by rw [← HK0.out]; rfl) (by rw [← HK0.out]; rfl) z32_len z32_len true (by rw [if_pos rfl]; simp) ?_) | fail)
        have hb5 : Below w4.heap.size w4 w5 := Bm (Ba (B0 w4) _) HM5.out (fun i hi => by omega)
        replace HT := Lib.hid (HT.out.below hb5)
        replace HB3 := Lib.hid (Bt HB3.out hb5)
        clear hb5
        refine (in_any S g m.node 0 m.ver qs node port w5 HT.out hn1 h0 h1).mono ?_
        rw [HPN.out, show wiB ((none : Option Pe).getD zPe).ins port = false from rfl]
        rintro e w6 ⟨rfl, hb6⟩
        replace HT := Lib.hid (HT.out.below hb6)
        replace HB3 := Lib.hid (Bt HB3.out hb6)
        clear hb6
        go_wp2_with fail
        refine (out_any S g m.node 0 m.ver qs node port w6 HT.out hn1 h0 h1).mono ?_
        rw [HPN.out, show wiB ((none : Option Pe).getD zPe).outs port = false from rfl]
        rintro e w7 ⟨rfl, hb7⟩
        replace HB3 := Lib.hid (Bt HB3.out hb7)
        clear hb7
        go_wp2_with fail
        go_ret
        exact ⟨rfl, HB3.out⟩
theorem peersOthers_walk {H : Type} {enc : TypeId × Value → H} (W : World) {base : Nat} {sp : Nat → Bool} {held : Bool} {v : Value} {d : DataW H} {pl : List MemPlace} (hv : Value.okWide Try.prog W .any base 34 v) (ht : DataW.Trod enc Try.prog W 0 sp held 34 v d pl)
    (hz : ∀ n ∈ d.weights Try.prog 34, n ≤ reachBytes) (n : Int) (w1 : (Lit.int .i64 n).wf = true) (x : Int) (w2 : (Lit.int .i64 x).wf = true) :
    Calls Try.prog 8 #[v, .int .i64 n, .int .i64 x] W fun e w' => e = .returned (.bool true) ∧ Below W.heap.size W w' := by
  obtain ⟨m, rfl, hm⟩ := open_map hv ht
  have h := i64_wf w1
  exact peersOthers_at m n x W hm h.1 (by omega)
end Go.Proofs.Ytgmndppjdnpejaa
