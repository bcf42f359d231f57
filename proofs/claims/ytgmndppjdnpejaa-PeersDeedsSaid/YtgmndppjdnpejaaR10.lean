/- The document's table: its answers. -/
import Derived.Test.YtgmndppjdnpejaaR9
namespace Go.Proofs.Ytgmndppjdnpejaa
open Go.RowKit
set_option maxRecDepth 20000
set_option linter.unusedVariables false
set_option linter.unusedSimpArgs false

theorem cnt_mem {tick : Int} {ps : List Pe} {p : Pe} (h : p ∈ cntP tick ps) : p ∈ ps ∧ tick < p.ex := by
  unfold cntP at h
  have := List.mem_filter.1 h
  exact ⟨this.1, by simpa using this.2⟩
theorem find_none {α : Type} {f : α → Bool} {l : List α} (h : ∀ j (hj : j < l.length), f l[j] = false) : l.find? f = none := by
  rw [List.find?_eq_none]
  intro x hx
  obtain ⟨j, hj, rfl⟩ := List.getElem_of_mem hx
  rw [h j hj]
  simp
theorem find_at {α : Type} {f : α → Bool} {l : List α} {k : Nat} (hk : k < l.length) (h : ∀ j (hj : j < l.length), j < k → f l[j] = false) (hf : f l[k] = true) : l.find? f = some l[k] := by
  have e : l.find? f = (l.take k ++ l[k] :: l.drop (k + 1)).find? f := by rw [← List.drop_eq_getElem_cons hk, List.take_append_drop]
  rw [e, List.find?_append, find_none (l := l.take k) (fun j hj => by
    rw [List.getElem_take]
    exact h j (by simp at hj; omega) (by simp at hj; omega)), Option.none_or, List.find?_cons]
  simp [hf]
def kyP (tick : Int) (ps : List Pe) (ks : List Int) : Option Pe := (cntP tick ps).find? (fun p => p.ks == ks)
def byP (tick : Int) (ps : List Pe) (n : Int) : Option Pe := (cntP tick ps).find? (fun p => p.nd == n)
theorem byP_at {w : World} {S : Nat → Prop} {ps : List Pe} {tick n : Int} (h : ∀ p ∈ ps, PeAt w S p) : PeAt w S ((byP tick ps n).getD zPe) := by
  cases hq : byP tick ps n
  · exact zPe_at w S
  · exact h _ (cnt_mem (List.mem_of_find?_eq_some hq)).1
set_option maxHeartbeats 4000000 in
theorem rkey_any (S : Nat → Prop) (g : Nat) (node tick : Int) (has : Bool) (m : Nm) (ks : List Int) (W : World) (h : RtAt W S g node has m tick) (z0 : m.ps.length * 96 ≤ 140737488355328) (hk : ks.length = 32) :
    Calls Try.prog 37 #[.pointer (some ⟨g, 0, none⟩), .agg (bts ks).toArray] W (KeyDid (kyP tick m.ps ks) W) := by
  obtain ⟨w1, hw1⟩ : ∃ u, u = W.alloc (.cells (bts ks).toArray 31) := ⟨_, rfl⟩
  have hb1 : Below W.heap.size W w1 := by rw [hw1]; exact Ba (B0 W) _
  have HG := Lib.hid (show Blk w1 W.heap.size 31 (bts ks).toArray by rw [hw1]; exact Blk.new _ _ _)
  have HB1 := Lib.hid hb1
  have HW1 := Lib.hid hw1
  have HT := Lib.hid (h.below hb1)
  have HK := Lib.hid hk
  have HLK := Lib.hid (show (bts ks).length = 32 by rw [bts_length]; exact hk)
  have HKS := Lib.hid (show ∀ p ∈ cntP tick m.ps, p.ks.length = 32 from fun p hp => (h.nm.each p (cnt_mem hp).1).k32)
  obtain ⟨qs, hqs⟩ : ∃ qs, qs = cntP tick m.ps := ⟨_, rfl⟩
  have HKY := Lib.hid (show kyP tick m.ps ks = qs.find? (fun p => p.ks == ks) by rw [hqs]; rfl)
  have HQS := Lib.hid hqs
  rw [← hqs] at HKS
  clear h hb1 hw1 hk hqs
  go_enter Try.func37, Try.ntmps37
  go_upto_region 1 with fail
  change Code.wp _ _ _ _ (W.alloc (.cells (bts ks).toArray 31))
  rw [← HW1.out]
  go_wp2_with fail
  refine (rps_any S g node tick has m w1 HT.out z0).mono ?_
  rw [← HQS.out]
  rintro e w2 ⟨A, c, rfl, ho, hb2⟩
  have HO := Lib.hid (Rd.of_own ho)
  have HB2 := Lib.hid (Bt HB1.out hb2)
  have HG2 := Lib.hid (HG.out.later hb2)
  have hcap := (Rd.of_own ho).cap.2
  have hc1 := hcap.1
  have hc2 := hcap.2
  unfold maxLen at hc2
  clear ho hb2 hcap
  go_wp2_with fail
  go_loopw [7] (fun i wr => ∃ k : Nat, k ≤ qs.length ∧ i = .int .i64 k ∧ (∀ j (hj : j < qs.length), j < k → ((qs[j]).ks == ks) = false) ∧ ∃ n, wr = w2.drewN n) (fun i _ => qs.length - (intOf i).toNat)
  case atStart => exact ⟨0, Nat.zero_le _, rfl, fun j _ hj => absurd hj (Nat.not_lt_zero _), 0, rfl⟩
  case round =>
    obtain ⟨k, hk, rfl, hne, n, rfl⟩ := hrel
    have HNE := Lib.hid hne
    clear hne
    by_cases hlt : k < qs.length
    · have hlt' : (k : Int) < (qs.length : Int) := by omega
      have hk0 : (0 : Int) ≤ (k : Int) := by omega
      obtain ⟨gp, op, hA, hgp, hra⟩ := row_at HO.out (fun p hp => Pe.len (HKS.out p hp)) hlt
      subst hA
      obtain ⟨p, hp⟩ : ∃ p, p = qs[k] := ⟨_, rfl⟩
      rw [← hp] at hra
      have HP := Lib.hid hp
      have HPK := Lib.hid (show p.ks.length = 32 by rw [hp]; exact HKS.out _ (List.getElem_mem hlt))
      have pc := pe_cells hra HPK.out
      have x0 := pc.1
      have HXK := Lib.hid pc.2.1
      have HLP := Lib.hid (show (bts p.ks).length = 32 by rw [bts_length]; exact HPK.out)
      obtain ⟨nd, hnd⟩ : ∃ x, x = p.nd := ⟨_, rfl⟩
      rw [← hnd] at x0
      have HND := Lib.hid hnd
      clear hp hra pc hgp hnd
      obtain ⟨b, hbq⟩ : ∃ b, (p.ks == ks) = b := ⟨_, rfl⟩
      have HBQ := Lib.hid hbq
      clear hbq
      go_wp2_with fail
      refine wp_region_quiet_lit (by kernel_rfl) (by kernel_rfl) ?_
      iterate 4 (go_big_quiet_step (fail))
      refine q_load big_key (by first | rfl | simp [Region.wanted, yielded]) (.tmp 19) rfl gp (op + k * 36 + 1) rfl (bts p.ks) HLP.out HXK.out ?_; simp only [Act.put, List.setIfInBounds_toArray, List.set_cons_zero, List.set_cons_succ]
      refine q_load big_key (by first | rfl | simp [Region.wanted, yielded]) (.tmp 3) rfl W.heap.size 0 rfl (bts ks) HLK.out (blk_range HG2.out) ?_; simp only [Act.put, List.setIfInBounds_toArray, List.set_cons_zero, List.set_cons_succ]
      refine q_eqK (by first | rfl | simp [Region.wanted, yielded]) (.tmp 20) (.tmp 21) rfl p.ks ks rfl rfl HPK.out HK.out b HBQ.out ?_; simp only [Act.put, List.setIfInBounds_toArray, List.set_cons_zero, List.set_cons_succ]
      refine wpQuiet_nil ?_
      intro _ hw'
      obtain ⟨n2, hw''⟩ := hw'
      subst hw''
      cases b
      · go_wp2_with fail
        go_roundw
        case rel =>
          refine ⟨k + 1, by omega, by go_num, fun j hj hjk => ?_, _, rfl⟩
          by_cases h : j = k
          · subst h; rw [← HP.out]; exact HBQ.out
          · exact HNE.out j hj (by omega)
        case measure => simp [intOf]; omega
      · go_wp2_with fail
        go_ret2
        have e : qs.find? (fun p => p.ks == ks) = some p := by rw [find_at (f := fun p : Pe => p.ks == ks) hlt HNE.out (by rw [← HP.out]; exact HBQ.out), HP.out]
        refine ⟨?_, BdN HB2.out _⟩
        rw [HKY.out, e]
        simp [HND.out]
    · obtain rfl : k = qs.length := by omega
      go_wp2_with fail
      go_ret2
      refine ⟨?_, BdN HB2.out _⟩
      rw [HKY.out, find_none (fun j hj => HNE.out j hj hj)]
      rfl
def RByDid (q : Option Pe) (W : World) (e : Ending) (w' : World) : Prop := e = .returned (.tuple #[(q.getD zPe).v, .bool q.isSome]) ∧ Below W.heap.size W w'
set_option maxHeartbeats 4000000 in
theorem rby_any (S : Nat → Prop) (g : Nat) (node tick : Int) (has : Bool) (m : Nm) (n : Int) (W : World) (h : RtAt W S g node has m tick) (z0 : m.ps.length * 96 ≤ 140737488355328) :
    Calls Try.prog 54 #[.pointer (some ⟨g, 0, none⟩), .int .i64 n] W (RByDid (byP tick m.ps n) W) := by
  obtain ⟨w1, hw1⟩ : ∃ u, u = W.alloc (.cells zPe.L.toArray 43) := ⟨_, rfl⟩
  have hb1 : Below W.heap.size W w1 := by rw [hw1]; exact Ba (B0 W) _
  have HR := Lib.hid (show Blk w1 W.heap.size 43 zPe.L.toArray by rw [hw1]; exact Blk.new _ _ _)
  have HB1 := Lib.hid hb1
  have HW1 := Lib.hid hw1
  have HT := Lib.hid (h.below hb1)
  have HKS := Lib.hid (show ∀ p ∈ cntP tick m.ps, p.ks.length = 32 from fun p hp => (h.nm.each p (cnt_mem hp).1).k32)
  obtain ⟨qs, hqs⟩ : ∃ qs, qs = cntP tick m.ps := ⟨_, rfl⟩
  have HBY := Lib.hid (show byP tick m.ps n = qs.find? (fun p => p.nd == n) by rw [hqs]; rfl)
  have HQS := Lib.hid hqs
  rw [← hqs] at HKS
  clear h hb1 hw1 hqs
  go_enter Try.func54, Try.ntmps54
  go_upto_region 1 with fail
  change Code.wp _ _ _ _ (W.alloc (.cells zPe.L.toArray 43))
  rw [← HW1.out]
  go_wp2_with fail
  refine (rps_any S g node tick has m w1 HT.out z0).mono ?_
  rw [← HQS.out]
  rintro e w2 ⟨A, c, rfl, ho, hb2⟩
  have HO := Lib.hid (Rd.of_own ho)
  have HB2 := Lib.hid (Bt HB1.out hb2)
  have HR2 := Lib.hid (HR.out.later hb2)
  have hcap := (Rd.of_own ho).cap.2
  have hc1 := hcap.1
  have hc2 := hcap.2
  unfold maxLen at hc2
  clear ho hb2 hcap
  go_wp2_with fail
  go_loopw [7] (fun i wr => ∃ k : Nat, k ≤ qs.length ∧ i = .int .i64 k ∧ (∀ j (hj : j < qs.length), j < k → ((qs[j]).nd == n) = false) ∧ wr = w2) (fun i _ => qs.length - (intOf i).toNat)
  case atStart => exact ⟨0, Nat.zero_le _, rfl, fun j _ hj => absurd hj (Nat.not_lt_zero _), rfl⟩
  case round =>
    obtain ⟨k, hk, rfl, hne, rfl⟩ := hrel
    have HNE := Lib.hid hne
    clear hne
    by_cases hlt : k < qs.length
    · have hlt' : (k : Int) < (qs.length : Int) := by omega
      have hk0 : (0 : Int) ≤ (k : Int) := by omega
      obtain ⟨gp, op, hA, hgp, hra⟩ := row_at HO.out (fun p hp => Pe.len (HKS.out p hp)) hlt
      subst hA
      obtain ⟨p, hp⟩ : ∃ p, p = qs[k] := ⟨_, rfl⟩
      rw [← hp] at hra
      have HP := Lib.hid hp
      have HPK := Lib.hid (show p.ks.length = 32 by rw [hp]; exact HKS.out _ (List.getElem_mem hlt))
      have x0 := (pe_cells hra HPK.out).1
      have HRA := Lib.hid hra
      have HPL := Lib.hid (Pe.len HPK.out)
      obtain ⟨nd, hnd⟩ : ∃ x, x = p.nd := ⟨_, rfl⟩
      rw [← hnd] at x0
      have HND := Lib.hid hnd
      clear hp hra hgp hnd
      by_cases hq : nd = n
      · have hq' : (nd == n) = true := by simp [hq]
        have HQ := Lib.hid hq
        clear hq
        go_wp2_with (first | (refine step_load big_peer (by first | rfl | simp [Region.wanted, yielded]) (.tmp 25) rfl gp (op + k * 36) rfl p.L HPL.out HRA.out ?_) | (refine step_store big_peer rfl (.tmp 4) (.tmp 26) rfl W.heap.size rfl p.L HPL.out p.one rfl 43 _ HR2.out (by simp [zPe_len]) ?_; intro w3 hb3 hm3 hs3; have HF := Lib.hid hb3; have HM3 := Lib.hid hm3; clear hb3 hm3 hs3) | fail)
        refine bodyPost_ret (v := .tuple #[p.v, .bool true]) (by simp [results, Try.results54, asAddr, load_big big_peer HF.out HPL.out]) rfl ?_
        have e : qs.find? (fun p => p.nd == n) = some p := by rw [find_at (f := fun p : Pe => p.nd == n) hlt HNE.out (by rw [← HP.out, ← HND.out]; simp [HQ.out]), HP.out]
        refine ⟨?_, Bm HB2.out HM3.out (fun i hi => by omega)⟩
        rw [HBY.out, e]
        rfl
      · have hq' : (nd == n) = false := by simp [hq]
        have HQ := Lib.hid hq
        clear hq
        go_wp2_with fail
        go_roundw
        case rel =>
          refine ⟨k + 1, by omega, by go_num, fun j hj hjk => ?_, trivial⟩
          by_cases h : j = k
          · subst h; rw [← HP.out, ← HND.out]; simp [HQ.out]
          · exact HNE.out j hj (by omega)
        case measure => simp [intOf]; omega
    · obtain rfl : k = qs.length := by omega
      go_wp2_with (first | (refine step_build (t := 43) (by first | rfl | simp [Region.wanted, yielded]) _ rfl [] rfl zPe.L.toArray (build_peer0 _) ?_) | (refine step_store big_peer rfl (.tmp 4) (.tmp 27) rfl W.heap.size rfl zPe.L zPe_len zPe.one rfl 43 _ HR2.out (by simp [zPe_len]) ?_; intro w3 hb3 hm3 hs3; have HF := Lib.hid hb3; have HM3 := Lib.hid hm3; clear hb3 hm3 hs3) | fail)
      refine bodyPost_ret (v := .tuple #[zPe.v, .bool false]) (by simp [results, Try.results54, asAddr, load_big big_peer HF.out zPe_len]) rfl ?_
      refine ⟨?_, Bm HB2.out HM3.out (fun i hi => by omega)⟩
      rw [HBY.out, find_none (fun j hj => HNE.out j hj hj)]
      rfl
set_option maxHeartbeats 2000000 in
theorem rBy_any (S : Nat → Prop) (g : Nat) (node tick : Int) (has : Bool) (m : Nm) (n : Int) (W : World) (h : RtAt W S g node has m tick) (z0 : m.ps.length * 96 ≤ 140737488355328) :
    Calls Try.prog 40 #[.pointer (some ⟨g, 0, none⟩), .int .i64 n] W fun e w' => e = .returned (.tuple #[.agg (bts ((byP tick m.ps n).getD zPe).ks).toArray, .bool (byP tick m.ps n).isSome]) ∧ Below W.heap.size W w' := by
  obtain ⟨w1, hw1⟩ : ∃ u, u = W.alloc (.cells (bts z32).toArray 31) := ⟨_, rfl⟩
  have hb1 : Below W.heap.size W w1 := by rw [hw1]; exact Ba (B0 W) _
  have HT := Lib.hid (h.below hb1)
  have HR := Lib.hid (show Blk w1 W.heap.size 31 (bts z32).toArray by rw [hw1]; exact Blk.new _ _ _)
  have HB1 := Lib.hid hb1
  have HW1 := Lib.hid hw1
  have hq := byP_at (tick := tick) (n := n) h.nm.each
  obtain ⟨Q, hQ⟩ : ∃ Q, Q = byP tick m.ps n := ⟨_, rfl⟩
  rw [← hQ] at hq ⊢
  have HQ := Lib.hid hQ
  obtain ⟨q, hqq⟩ : ∃ q, q = Q.getD zPe := ⟨_, rfl⟩
  rw [← hqq] at hq ⊢
  have HQK := Lib.hid hq.k32
  have HQL := Lib.hid (Pe.len hq.k32)
  have HLQ := Lib.hid (show (bts q.ks).length = 32 by rw [bts_length]; exact hq.k32)
  have HLZ := Lib.hid (show (bts z32).length = 32 by rw [bts_length]; exact z32_len)
  have HQQ := Lib.hid hqq
  obtain ⟨b, hbq⟩ : ∃ b, b = Q.isSome := ⟨_, rfl⟩
  rw [← hbq]
  have HBQ := Lib.hid hbq
  clear h hb1 hw1 hq hQ hqq hbq
  go_enter Try.func40, Try.ntmps40
  go_upto_region 1 with fail
  change Code.wp _ _ _ _ (W.alloc (.cells (bts z32).toArray 31))
  rw [← HW1.out]
  go_wp2_with fail
  refine (rby_any S g node tick has m n w1 HT.out z0).mono ?_
  rw [← HQ.out]
  rintro e w2 ⟨rfl, hb2⟩
  rw [← HQQ.out, ← HBQ.out]
  have HB2 := Lib.hid (Bt HB1.out hb2)
  have HR2 := Lib.hid (HR.out.later hb2)
  have hrw : W.heap.size < w2.heap.size := HR2.out.lt
  clear hb2
  go_wp2_with (first | (refine step_store big_peer rfl (.tmp 6) (.tmp 12) rfl w2.heap.size rfl q.L HQL.out q.one rfl 43 _ (Blk.new w2 43 _) rfl ?_; intro w3 hb3 hm3 hs3; have HP := Lib.hid hb3; have HM3 := Lib.hid hm3; have HR3 := Lib.hid ((HR2.out.alloc _).kept hm3 (by omega)); have HPK := Lib.hid (pe_cells (blk_range hb3) HQK.out).2.1; clear hb3 hm3 hs3) | (refine step_load big_key rfl (.tmp 14) rfl w2.heap.size 1 rfl (bts q.ks) HLQ.out (by have := HPK.out; rwa [Nat.zero_add] at this) ?_) | (refine step_store big_key rfl (.tmp 4) (.tmp 15) rfl W.heap.size rfl (bts q.ks) HLQ.out (bts_one' _) rfl 31 _ HR3.out (by simp [HLZ.out]) ?_; intro w4 hb4 hm4 hs4; have HF := Lib.hid hb4; have HM4 := Lib.hid hm4; clear hb4 hm4 hs4) | fail)
  refine bodyPost_ret (v := .tuple #[.agg (bts q.ks).toArray, .bool b]) (by simp [results, Try.results40, asAddr, load_big big_key HF.out HLQ.out]) rfl ?_
  exact ⟨rfl, Bm (Bm (Ba HB2.out _) HM3.out (fun i hi => by omega)) HM4.out (fun i hi => by omega)⟩
set_option maxHeartbeats 2000000 in
theorem rin_any (S : Nat → Prop) (g : Nat) (node tick : Int) (has : Bool) (m : Nm) (n port : Int) (W : World) (h : RtAt W S g node has m tick) (z0 : m.ps.length * 96 ≤ 140737488355328) :
    Calls Try.prog 41 #[.pointer (some ⟨g, 0, none⟩), .int .i64 n, .int .i64 port] W fun e w' => e = .returned (.bool (wiB ((byP tick m.ps n).getD zPe).ins port)) ∧ Below W.heap.size W w' := by
  have hq := byP_at (tick := tick) (n := n) h.nm.each
  obtain ⟨Q, hQ⟩ : ∃ Q, Q = byP tick m.ps n := ⟨_, rfl⟩
  rw [← hQ] at hq ⊢
  have HQ := Lib.hid hQ
  obtain ⟨q, hqq⟩ : ∃ q, q = Q.getD zPe := ⟨_, rfl⟩
  rw [← hqq] at hq ⊢
  have HPE := Lib.hid hq
  have HQL := Lib.hid (Pe.len hq.k32)
  have HQQ := Lib.hid hqq
  have HT := Lib.hid h
  have HS := Lib.hid h.lts
  clear h hq hQ hqq
  go_enter Try.func41, Try.ntmps41
  go_wp2_with fail
  refine (rby_any S g node tick has m n W HT.out z0).mono ?_
  rw [← HQ.out]
  rintro e w2 ⟨rfl, hb2⟩
  rw [← HQQ.out]
  have HB2 := Lib.hid hb2
  clear hb2
  go_upto_region 2 with (first | (refine step_store big_peer rfl (.tmp 7) (.tmp 13) rfl w2.heap.size rfl q.L HQL.out q.one rfl 43 _ (Blk.new w2 43 _) rfl ?_; intro w3 hb3 hm3 hs3; have HP := Lib.hid hb3; have HM3 := Lib.hid hm3; clear hb3 hm3 hs3) | fail)
  have hpc := pe_cells (blk_range HP.out) HPE.out.k32
  simp only [Nat.zero_add] at hpc
  have y := hpc.2.2.2.1
  have lp := HP.out.lt
  have HB3 := Lib.hid (show Below W.heap.size W w3 from Bm (Ba HB2.out _) HM3.out (fun i hi => by have := HB2.out.size; omega))
  clear hpc
  go_wp2_with fail
  refine (rwithin_any _ q.IA q.ic q.ins port w3 (HPE.out.below HB3.out (fun i hi => HS.out i hi.1)).ri).mono ?_
  rintro e w4 ⟨rfl, n4, rfl⟩
  obtain ⟨b, hbq⟩ : ∃ b, b = wiB q.ins port := ⟨_, rfl⟩
  rw [← hbq]
  have HBQ := Lib.hid hbq
  clear hbq y lp
  go_wp2_with fail
  go_ret
  exact ⟨ret_bool HBQ.out, BdN HB3.out _⟩
set_option maxHeartbeats 2000000 in
theorem rout_any (S : Nat → Prop) (g : Nat) (node tick : Int) (has : Bool) (m : Nm) (n port : Int) (W : World) (h : RtAt W S g node has m tick) (z0 : m.ps.length * 96 ≤ 140737488355328) :
    Calls Try.prog 42 #[.pointer (some ⟨g, 0, none⟩), .int .i64 n, .int .i64 port] W fun e w' => e = .returned (.bool (wiB ((byP tick m.ps n).getD zPe).outs port)) ∧ Below W.heap.size W w' := by
  have hq := byP_at (tick := tick) (n := n) h.nm.each
  obtain ⟨Q, hQ⟩ : ∃ Q, Q = byP tick m.ps n := ⟨_, rfl⟩
  rw [← hQ] at hq ⊢
  have HQ := Lib.hid hQ
  obtain ⟨q, hqq⟩ : ∃ q, q = Q.getD zPe := ⟨_, rfl⟩
  rw [← hqq] at hq ⊢
  have HPE := Lib.hid hq
  have HQL := Lib.hid (Pe.len hq.k32)
  have HQQ := Lib.hid hqq
  have HT := Lib.hid h
  have HS := Lib.hid h.lts
  clear h hq hQ hqq
  go_enter Try.func42, Try.ntmps42
  go_wp2_with fail
  refine (rby_any S g node tick has m n W HT.out z0).mono ?_
  rw [← HQ.out]
  rintro e w2 ⟨rfl, hb2⟩
  rw [← HQQ.out]
  have HB2 := Lib.hid hb2
  clear hb2
  go_upto_region 2 with (first | (refine step_store big_peer rfl (.tmp 7) (.tmp 13) rfl w2.heap.size rfl q.L HQL.out q.one rfl 43 _ (Blk.new w2 43 _) rfl ?_; intro w3 hb3 hm3 hs3; have HP := Lib.hid hb3; have HM3 := Lib.hid hm3; clear hb3 hm3 hs3) | fail)
  have hpc := pe_cells (blk_range HP.out) HPE.out.k32
  simp only [Nat.zero_add] at hpc
  have y := hpc.2.2.2.2
  have lp := HP.out.lt
  have HB3 := Lib.hid (show Below W.heap.size W w3 from Bm (Ba HB2.out _) HM3.out (fun i hi => by have := HB2.out.size; omega))
  clear hpc
  go_wp2_with fail
  refine (rwithin_any _ q.OA q.oc q.outs port w3 (HPE.out.below HB3.out (fun i hi => HS.out i hi.1)).ro).mono ?_
  rintro e w4 ⟨rfl, n4, rfl⟩
  obtain ⟨b, hbq⟩ : ∃ b, b = wiB q.outs port := ⟨_, rfl⟩
  rw [← hbq]
  have HBQ := Lib.hid hbq
  clear hbq y lp
  go_wp2_with fail
  go_ret
  exact ⟨ret_bool HBQ.out, BdN HB3.out _⟩
set_option maxHeartbeats 4000000 in
theorem rlist_any (S : Nat → Prop) (g : Nat) (node tick : Int) (has : Bool) (m : Nm) (W : World) (h : RtAt W S g node has m tick) (z0 : m.ps.length * 96 ≤ 140737488355328) :
    Calls Try.prog 39 #[.pointer (some ⟨g, 0, none⟩)] W (ListDid ((cntP tick m.ps).map Pe.nd) W) := by
  obtain ⟨i0, hi0, hz0, hz1, hz2⟩ := info_parts info3
  have HT := Lib.hid h
  have HKS := Lib.hid (show ∀ p ∈ cntP tick m.ps, p.ks.length = 32 from fun p hp => (h.nm.each p (cnt_mem hp).1).k32)
  obtain ⟨qs, hqs⟩ : ∃ qs, qs = cntP tick m.ps := ⟨_, rfl⟩
  have hql : qs.length ≤ m.ps.length := by rw [hqs]; exact List.length_filter_le _ _
  have HQS := Lib.hid hqs
  rw [← hqs] at HKS ⊢
  clear h hqs
  go_enter Try.func39, Try.ntmps39
  go_wp2_with fail
  refine (rps_any S g node tick has m W HT.out z0).mono ?_
  rw [← HQS.out]
  rintro e w2 ⟨B, cb, rfl, ho, hb2⟩
  have HO := Lib.hid (show Rd w2 (fun i => i < w2.heap.size) 36 (.slice B qs.length cb) qs.length (rowP qs) from (Rd.of_own ho).mono (fun i hi => own_lt ho i hi))
  have HB2 := Lib.hid hb2
  have hcap := (Rd.of_own ho).cap.2
  have hc1 := hcap.1
  have hc2 := hcap.2
  unfold maxLen at hc2
  clear ho hb2 hcap
  go_wp2_with fail
  go_loopw [3, 5] (fun o i wr => ∃ (k : Nat) (A : Option Addr) (c : Nat), k ≤ qs.length ∧ i = .int .i64 k ∧ o = .slice A k c ∧ wr.ownsRow w2.heap.size 3 1 (.slice A k c) k (ints ((qs.take k).map Pe.nd)) ∧ Below w2.heap.size w2 wr) (fun _ i _ => qs.length - (intOf i).toNat)
  case atStart => exact ⟨0, none, 0, by omega, rfl, rfl, World.ownsRow_nil _ _ _ _, B0 _⟩
  case round =>
    obtain ⟨k, A, c, hk, rfl, rfl, hw, hb⟩ := hrel
    obtain ⟨wv, rfl⟩ : ∃ wv, wv = wr := ⟨_, rfl⟩
    have HOW := Lib.hid hw
    have HB := Lib.hid hb
    by_cases hlt : k < qs.length
    · have hlt' : (k : Int) < (qs.length : Int) := by omega
      have hk0 : (0 : Int) ≤ (k : Int) := by omega
      obtain ⟨gp, op, hA, hgp, hra⟩ := row_at (HO.out.below hb (fun i hi => hi)) (fun p hp => Pe.len (HKS.out p hp)) hlt
      subst hA
      obtain ⟨p, hp⟩ : ∃ p, p = qs[k] := ⟨_, rfl⟩
      rw [← hp] at hra
      have HP := Lib.hid hp
      have x0 := (pe_cells hra (show p.ks.length = 32 by rw [hp]; exact HKS.out _ (List.getElem_mem hlt))).1
      obtain ⟨nd, hnd⟩ : ∃ x, x = p.nd := ⟨_, rfl⟩
      rw [← hnd] at x0
      have HND := Lib.hid hnd
      have HOA := Lib.hid (HOW.out.alloc (.cells #[.int .i64 nd] 3))
      have hs := HB.out.size
      clear hp hra hgp hnd hw hb
      go_wp2_with (first | (at_builtin; refine wpList_append_rd _ rfl (.tmp 14) (.tmp 20) _ rfl w2.heap.size 3 i0 _ 1 8 Try.underlying51 hi0 hz0 hz1 hz2 rfl (by omega) (.slice A k c) k (ints ((qs.take k).map Pe.nd)) rfl HOA.out (fun i => i = wv.heap.size) (.slice (some ⟨wv.heap.size, 0, none⟩) 1 1) 1 [.int .i64 nd] rfl (Rd.box wv 3 [.int .i64 nd] 1 rfl) (by simp [Value.oneCell']) (by simp only [maxLen]; omega) (by omega) (by simp; omega) ?_; intro v2 w5 HA; obtain ⟨A5, c5, hv2⟩ := own_slice HA.own; subst hv2; have HAA := Lib.hid HA; clear HA) | fail)
      go_roundw
      case rel =>
        refine ⟨k + 1, A5, c5, by omega, by go_num, rfl, ?_, (Ba HB.out _).grown HAA.out.grown (by simp; omega) (fun j hj => own_ge HOW.out j hj)⟩
        have := HAA.out.own
        rw [List.take_succ_eq_append_getElem hlt, List.map_append, ← HP.out]
        simpa [ints, HND.out] using this
      case measure => simp [intOf]; omega
    · obtain rfl : k = qs.length := by omega
      go_wp2_with fail
      go_ret
      have e : (qs.take qs.length).map Pe.nd = qs.map Pe.nd := by rw [List.take_of_length_le (Nat.le_refl _)]
      have el : (qs.map Pe.nd).length = qs.length := by simp
      refine ⟨A, c, by rw [el]; rfl, ?_, Bt HB2.out HB.out⟩
      have := HOW.out
      rw [e] at this
      rw [el]
      exact own_mod this (Mod.refl (fun _ => False) wv) (fun _ _ h => h) HB2.out.size
end Go.Proofs.Ytgmndppjdnpejaa
