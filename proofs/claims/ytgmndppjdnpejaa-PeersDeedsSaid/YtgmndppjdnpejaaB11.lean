/- A table's answers: By, In, Out, List. -/
import Derived.Test.YtgmndppjdnpejaaB10
namespace Go.Proofs.Ytgmndppjdnpejaa
open Go.RowKit
set_option maxRecDepth 20000
set_option linter.unusedVariables false
set_option linter.unusedSimpArgs false

/-- What a table's peers are to be. -/
structure PsOk (ps : List Pe) : Prop where
  k32 : ∀ p ∈ ps, p.ks.length = 32
  len : ∀ p ∈ ps, p.ins.length ≤ 33 ∧ p.outs.length ≤ 33
theorem TbAt.each {w : World} {S : Nat → Prop} {g : Nat} {node tick ver : Int} {ps : List Pe} (h : TbAt w S g node tick ver ps) : ∀ p ∈ ps, PeAt w S p := by
  obtain ⟨_, _, mk, mn, _, h⟩ := h
  rcases h with ⟨_, _, e3⟩ | ⟨bk, bn, nk, nn, fk, fn, e1, e2, s1, s2, hne, m1, m2, f1, f2, hp⟩
  · subst e3; intro p hp; simp at hp
  · exact fun p h => ⟨(hp p h).k32, (hp p h).kb, (hp p h).ri.mono (fun i hi => hi.1), (hp p h).ro.mono (fun i hi => hi.1)⟩
theorem pkN_mem {tick n : Int} {ps : List Pe} {p : Pe} (h : pkN tick ps n = some p) : p ∈ ps ∧ p.nd = n ∧ tick < p.ex := by
  unfold pkN at h
  rw [Option.filter_eq_some_iff] at h
  obtain ⟨h1, h2⟩ := h
  unfold lkN at h1
  have h3 := List.mem_of_find?_eq_some h1
  have h4 := List.find?_some h1
  exact ⟨by simpa using h3, by simpa using h4, by simpa using h2⟩
theorem pkN_at {w : World} {S : Nat → Prop} {ps : List Pe} {tick n : Int} (h : ∀ p ∈ ps, PeAt w S p) : PeAt w S ((pkN tick ps n).getD zPe) := by
  cases hq : pkN tick ps n
  · exact zPe_at w S
  · exact h _ (pkN_mem hq).1
theorem TbAt.lts {w : World} {S : Nat → Prop} {g : Nat} {node tick ver : Int} {ps : List Pe} (h : TbAt w S g node tick ver ps) : ∀ i, S i → i < w.heap.size := h.2.1

set_option maxHeartbeats 2000000 in
theorem by_any (S : Nat → Prop) (g : Nat) (node tick ver : Int) (ps : List Pe) (n : Int) (W : World) (h : TbAt W S g node tick ver ps) (hn : 1 ≤ node) (h0 : -9223372036854775808 ≤ n) (h1 : n ≤ 9223372036854775807) :
    Calls Try.prog 25 #[.pointer (some ⟨g, 0, none⟩), .int .i64 n] W fun e w' => e = .returned (.tuple #[.agg (bts ((pkN tick ps n).getD zPe).ks).toArray, .bool (pkN tick ps n).isSome]) ∧ Below W.heap.size W w' := by
  obtain ⟨w1, hw1⟩ : ∃ u, u = W.alloc (.cells (bts z32).toArray 31) := ⟨_, rfl⟩
  have hb1 : Below W.heap.size W w1 := by rw [hw1]; exact Ba (B0 W) _
  have HT := Lib.hid (h.below hb1)
  have HR := Lib.hid (show Blk w1 W.heap.size 31 (bts z32).toArray by rw [hw1]; exact Blk.new _ _ _)
  have HB1 := Lib.hid hb1
  have HW1 := Lib.hid hw1
  have HKS := Lib.hid (show ∀ p ∈ ps, p.ks.length = 32 from fun p hp => (h.each p hp).k32)
  have hq := pkN_at (tick := tick) (n := n) h.each
  obtain ⟨Q, hQ⟩ : ∃ Q, Q = pkN tick ps n := ⟨_, rfl⟩
  rw [← hQ] at hq ⊢
  have HQ := Lib.hid hQ
  obtain ⟨q, hqq⟩ : ∃ q, q = Q.getD zPe := ⟨_, rfl⟩
  rw [← hqq] at hq ⊢
  have HQK := Lib.hid hq.k32
  have HQL := Lib.hid (Pe.len hq.k32)
  have HLQ := Lib.hid (show (bts q.ks).length = 32 by rw [bts_length]; exact hq.k32)
  have HLZ := Lib.hid (show (bts z32).length = 32 by rw [bts_length]; exact z32_len)
  have HQQ := Lib.hid hqq
  obtain ⟨b, hbq⟩ : ∃ b, b = Q.isSome := ⟨_, rfl⟩
  rw [← hbq]
  have HBQ := Lib.hid hbq
  clear h hb1 hw1 hq hQ hqq hbq
  go_enter Try.func25, Try.ntmps25
  go_upto_region 1 with fail
  change Code.wp _ _ _ _ (W.alloc (.cells (bts z32).toArray 31))
  rw [← HW1.out]
  go_wp2_with fail
  refine (peer_any S g node tick ver ps n w1 HT.out hn h0 h1 HKS.out).mono ?_
  rw [← HQ.out]
  rintro e w2 ⟨rfl, hb2⟩
  rw [← HQQ.out, ← HBQ.out]
  have HB2 := Lib.hid (Bt HB1.out hb2)
  have HR2 := Lib.hid (HR.out.later hb2)
  have hrw : W.heap.size < w2.heap.size := HR2.out.lt
  clear hb2
  go_wp2_with (first | (refine step_store big_peer rfl (.tmp 6) (.tmp 12) rfl w2.heap.size rfl q.L HQL.out q.one rfl 43 _ (Blk.new w2 43 _) rfl ?_; intro w3 hb3 hm3 hs3; have HP := Lib.hid hb3; have HM3 := Lib.hid hm3; have HR3 := Lib.hid ((HR2.out.alloc _).kept hm3 (by omega)); have HPK := Lib.hid (pe_cells (blk_range hb3) HQK.out).2.1; clear hb3 hm3 hs3) | (refine step_load big_key rfl (.tmp 14) rfl w2.heap.size 1 rfl (bts q.ks) HLQ.out (by have := HPK.out; rwa [Nat.zero_add] at this) ?_) | (refine step_store big_key rfl (.tmp 4) (.tmp 15) rfl W.heap.size rfl (bts q.ks) HLQ.out (bts_one' _) rfl 31 _ HR3.out (by simp [HLZ.out]) ?_; intro w4 hb4 hm4 hs4; have HF := Lib.hid hb4; have HM4 := Lib.hid hm4; clear hb4 hm4 hs4) | fail)
  refine bodyPost_ret (v := .tuple #[.agg (bts q.ks).toArray, .bool b]) (by simp [results, Try.results25, asAddr, load_big big_key HF.out HLQ.out]) rfl ?_
  exact ⟨rfl, Bm (Bm (Ba HB2.out _) HM3.out (fun i hi => by omega)) HM4.out (fun i hi => by omega)⟩

set_option maxHeartbeats 2000000 in
theorem in_any (S : Nat → Prop) (g : Nat) (node tick ver : Int) (ps : List Pe) (n port : Int) (W : World) (h : TbAt W S g node tick ver ps) (hn : 1 ≤ node) (h0 : -9223372036854775808 ≤ n) (h1 : n ≤ 9223372036854775807) :
    Calls Try.prog 26 #[.pointer (some ⟨g, 0, none⟩), .int .i64 n, .int .i64 port] W fun e w' => e = .returned (.bool (wiB ((pkN tick ps n).getD zPe).ins port)) ∧ Below W.heap.size W w' := by
  have HKS := Lib.hid (show ∀ p ∈ ps, p.ks.length = 32 from fun p hp => (h.each p hp).k32)
  have hq := pkN_at (tick := tick) (n := n) h.each
  obtain ⟨Q, hQ⟩ : ∃ Q, Q = pkN tick ps n := ⟨_, rfl⟩
  rw [← hQ] at hq ⊢
  have HQ := Lib.hid hQ
  obtain ⟨q, hqq⟩ : ∃ q, q = Q.getD zPe := ⟨_, rfl⟩
  rw [← hqq] at hq ⊢
  have HPE := Lib.hid hq
  have HQL := Lib.hid (Pe.len hq.k32)
  have HQQ := Lib.hid hqq
  have HT := Lib.hid h
  have HS := Lib.hid h.lts
  clear h hq hQ hqq
  go_enter Try.func26, Try.ntmps26
  go_wp2_with fail
  refine (peer_any S g node tick ver ps n W HT.out hn h0 h1 HKS.out).mono ?_
  rw [← HQ.out]
  rintro e w2 ⟨rfl, hb2⟩
  rw [← HQQ.out]
  have HB2 := Lib.hid hb2
  clear hb2
  go_upto_region 2 with (first | (refine step_store big_peer rfl (.tmp 7) (.tmp 13) rfl w2.heap.size rfl q.L HQL.out q.one rfl 43 _ (Blk.new w2 43 _) rfl ?_; intro w3 hb3 hm3 hs3; have HP := Lib.hid hb3; have HM3 := Lib.hid hm3; clear hb3 hm3 hs3) | fail)
  have hpc := pe_cells (blk_range HP.out) HPE.out.k32
  simp only [Nat.zero_add] at hpc
  have y := hpc.2.2.2.1
  have lp := HP.out.lt
  have HB3 := Lib.hid (show Below W.heap.size W w3 from Bm (Ba HB2.out _) HM3.out (fun i hi => by have := HB2.out.size; omega))
  clear hpc
  go_wp2_with fail
  refine (within_any S q.IA q.ic q.ins port w3 (HPE.out.below HB3.out HS.out).ri (fun i hi => Nat.lt_of_lt_of_le (HS.out i hi) HB3.out.size)).mono ?_
  rintro e w4 ⟨rfl, hb4⟩
  have HB4 := Lib.hid (Bt HB3.out hb4)
  obtain ⟨b, hbq⟩ : ∃ b, b = wiB q.ins port := ⟨_, rfl⟩
  rw [← hbq]
  have HBQ := Lib.hid hbq
  clear hb4 hbq y lp
  go_wp2_with fail
  go_ret
  exact ⟨ret_bool HBQ.out, HB4.out⟩

set_option maxHeartbeats 2000000 in
theorem out_any (S : Nat → Prop) (g : Nat) (node tick ver : Int) (ps : List Pe) (n port : Int) (W : World) (h : TbAt W S g node tick ver ps) (hn : 1 ≤ node) (h0 : -9223372036854775808 ≤ n) (h1 : n ≤ 9223372036854775807) :
    Calls Try.prog 27 #[.pointer (some ⟨g, 0, none⟩), .int .i64 n, .int .i64 port] W fun e w' => e = .returned (.bool (wiB ((pkN tick ps n).getD zPe).outs port)) ∧ Below W.heap.size W w' := by
  have HKS := Lib.hid (show ∀ p ∈ ps, p.ks.length = 32 from fun p hp => (h.each p hp).k32)
  have hq := pkN_at (tick := tick) (n := n) h.each
  obtain ⟨Q, hQ⟩ : ∃ Q, Q = pkN tick ps n := ⟨_, rfl⟩
  rw [← hQ] at hq ⊢
  have HQ := Lib.hid hQ
  obtain ⟨q, hqq⟩ : ∃ q, q = Q.getD zPe := ⟨_, rfl⟩
  rw [← hqq] at hq ⊢
  have HPE := Lib.hid hq
  have HQL := Lib.hid (Pe.len hq.k32)
  have HQQ := Lib.hid hqq
  have HT := Lib.hid h
  have HS := Lib.hid h.lts
  clear h hq hQ hqq
  go_enter Try.func27, Try.ntmps27
  go_wp2_with fail
  refine (peer_any S g node tick ver ps n W HT.out hn h0 h1 HKS.out).mono ?_
  rw [← HQ.out]
  rintro e w2 ⟨rfl, hb2⟩
  rw [← HQQ.out]
  have HB2 := Lib.hid hb2
  clear hb2
  go_upto_region 2 with (first | (refine step_store big_peer rfl (.tmp 7) (.tmp 13) rfl w2.heap.size rfl q.L HQL.out q.one rfl 43 _ (Blk.new w2 43 _) rfl ?_; intro w3 hb3 hm3 hs3; have HP := Lib.hid hb3; have HM3 := Lib.hid hm3; clear hb3 hm3 hs3) | fail)
  have hpc := pe_cells (blk_range HP.out) HPE.out.k32
  simp only [Nat.zero_add] at hpc
  have y := hpc.2.2.2.2
  have lp := HP.out.lt
  have HB3 := Lib.hid (show Below W.heap.size W w3 from Bm (Ba HB2.out _) HM3.out (fun i hi => by have := HB2.out.size; omega))
  clear hpc
  go_wp2_with fail
  refine (within_any S q.OA q.oc q.outs port w3 (HPE.out.below HB3.out HS.out).ro (fun i hi => Nat.lt_of_lt_of_le (HS.out i hi) HB3.out.size)).mono ?_
  rintro e w4 ⟨rfl, hb4⟩
  have HB4 := Lib.hid (Bt HB3.out hb4)
  obtain ⟨b, hbq⟩ : ∃ b, b = wiB q.outs port := ⟨_, rfl⟩
  rw [← hbq]
  have HBQ := Lib.hid hbq
  clear hb4 hbq y lp
  go_wp2_with fail
  go_ret
  exact ⟨ret_bool HBQ.out, HB4.out⟩

/-- The nodes that count. -/
def listN (tick : Int) (ps : List Pe) : Nat → List Int
  | 0 => []
  | k + 1 => if (pkN tick ps ((k : Int) + 1)).isSome then listN tick ps k ++ [(k : Int) + 1] else listN tick ps k
theorem listN_len (tick : Int) (ps : List Pe) : ∀ k, (listN tick ps k).length ≤ k
  | 0 => by simp [listN]
  | k + 1 => by
    have := listN_len tick ps k
    unfold listN
    split
    · rw [List.length_append]; simp; omega
    · omega
theorem info3 : (Try.prog.info? 3).map (fun i => (i.zero, i.size, i.bytes)) = some (some (.int .i64 0), 1, 8) := by kernel_rfl
def ints (l : List Int) : List Value := l.map (Value.int .i64)
theorem ints_one (l : List Int) : ∀ u ∈ ints l, u.oneCell' = true := by
  intro u hu
  obtain ⟨x, _, rfl⟩ := List.mem_map.1 hu
  rfl
/-- What List answers: a list of its own. -/
def ListDid (l : List Int) (W : World) (e : Ending) (w' : World) : Prop := ∃ A c, e = .returned (.slice A l.length c) ∧ w'.ownsRow W.heap.size 3 1 (.slice A l.length c) l.length (ints l) ∧ Below W.heap.size W w'
set_option maxHeartbeats 2000000 in
theorem list_any (S : Nat → Prop) (g : Nat) (node tick ver : Int) (ps : List Pe) (W : World) (h : TbAt W S g node tick ver ps) (hn : 1 ≤ node) :
    Calls Try.prog 23 #[.pointer (some ⟨g, 0, none⟩)] W (ListDid (listN tick ps 8) W) := by
  obtain ⟨i0, hi0, hz0, hz1, hz2⟩ := info_parts info3
  have HKS := Lib.hid (show ∀ p ∈ ps, p.ks.length = 32 from fun p hp => (h.each p hp).k32)
  have HT := Lib.hid h
  have HEA := Lib.hid h.each
  clear h
  go_enter Try.func23, Try.ntmps23
  go_wp2_with fail
  go_loopw [3, 7] (fun o i wr => ∃ (k : Nat) (A : Option Addr) (c : Nat), k ≤ 8 ∧ i = .int .i64 k ∧ o = .slice A (listN tick ps k).length c ∧ wr.ownsRow W.heap.size 3 1 (.slice A (listN tick ps k).length c) (listN tick ps k).length (ints (listN tick ps k)) ∧ Below W.heap.size W wr) (fun _ i _ => 8 - (intOf i).toNat)
  case atStart => exact ⟨0, none, 0, by omega, rfl, rfl, World.ownsRow_nil _ _ _ _, B0 _⟩
  case round =>
    obtain ⟨k, A, c, hk, rfl, rfl, ho, hb⟩ := hrel
    obtain ⟨wv, rfl⟩ : ∃ wv, wv = wr := ⟨_, rfl⟩
    have HO := Lib.hid ho
    have HB := Lib.hid hb
    have hll := listN_len tick ps k
    clear ho hb
    by_cases hlt : k < 8
    · have hk0 : (0 : Int) ≤ (k : Int) := by omega
      have hk8 : (k : Int) < 8 := by omega
      have HST : Hid (listN tick ps (k + 1) = if (pkN tick ps ((k : Int) + 1)).isSome then listN tick ps k ++ [(k : Int) + 1] else listN tick ps k) := Lib.hid rfl
      obtain ⟨l, hl⟩ : ∃ l, l = listN tick ps k := ⟨_, rfl⟩
      rw [← hl] at HO HST hll ⊢
      clear hl
      go_wp2_with fail
      refine (peer_any S g node tick ver ps ((k : Int) + 1) wv (HT.out.below HB.out) hn (by omega) (by omega) HKS.out).mono ?_
      have hq := pkN_at (tick := tick) (n := (k : Int) + 1) HEA.out
      obtain ⟨Q, hQ⟩ : ∃ Q, Q = pkN tick ps ((k : Int) + 1) := ⟨_, rfl⟩
      rw [← hQ] at HST hq ⊢
      rintro e w2 ⟨rfl, hb2⟩
      obtain ⟨q, hqq⟩ : ∃ q, q = Q.getD zPe := ⟨_, rfl⟩
      rw [← hqq] at hq ⊢
      have HQL := Lib.hid (Pe.len hq.k32)
      obtain ⟨b, hbq⟩ : ∃ b, b = Q.isSome := ⟨_, rfl⟩
      rw [← hbq] at HST ⊢
      have HB2 := Lib.hid (Bt HB.out hb2)
      have HO2 := Lib.hid (own_below HO.out hb2)
      clear hb2 hq hqq hQ hbq
      go_upto_region 6 with (first | (refine step_store big_peer rfl (.tmp 5) (.tmp 15) rfl w2.heap.size rfl q.L HQL.out q.one rfl 43 _ (Blk.new w2 43 _) rfl ?_; intro w3 hb3 hm3 hs3; have HM3 := Lib.hid hm3; clear hb3 hm3 hs3) | fail)
      have HB3 := Lib.hid (show Below W.heap.size W w3 from Bm (Ba HB2.out _) HM3.out (fun i hi => by have := HB2.out.size; omega))
      have HO3 := Lib.hid (own_mod (own_below HO2.out (Ba (B0 w2) (.cells zPe.L.toArray 43))) HM3.out (fun i hi e => by have := own_lt HO2.out i hi; omega) (Nat.le_refl _))
      cases b
      · go_wp2_with fail
        go_roundw
        case rel => exact ⟨k + 1, A, c, by omega, by go_num, by rw [HST.out]; rfl, by rw [HST.out]; exact HO3.out, HB3.out⟩
        case measure => simp [intOf]; omega
      · have HOA := Lib.hid (HO3.out.alloc (.cells #[.int .i64 ((k : Int) + 1)] 3))
        go_wp2_with (first | (at_builtin; refine wpList_append_rd _ rfl (.tmp 18) (.tmp 21) _ rfl W.heap.size 3 i0 _ 1 8 Try.underlying51 hi0 hz0 hz1 hz2 rfl (by omega) (.slice A l.length c) l.length (ints l) rfl HOA.out (fun i => i = w3.heap.size) (.slice (some ⟨w3.heap.size, 0, none⟩) 1 1) 1 [.int .i64 ((k : Int) + 1)] rfl (Rd.box w3 3 [.int .i64 ((k : Int) + 1)] 1 rfl) (by simp [Value.oneCell']) (by simp only [maxLen]; omega) (by omega) (by have := HB3.out.size; simp; omega) ?_; intro v2 w5 HA; obtain ⟨A5, c5, hv2⟩ := own_slice HA.own; subst hv2; have HAA := Lib.hid HA; clear HA) | fail)
        go_roundw
        case rel =>
          have e1 : listN tick ps (k + 1) = l ++ [(k : Int) + 1] := by rw [HST.out]; rfl
          refine ⟨k + 1, A5, c5, by omega, by go_num, by rw [e1, List.length_append]; rfl, ?_, (Ba HB3.out _).grown HAA.out.grown (by have := HB3.out.size; simp; omega) (fun j hj => own_ge HO3.out j hj)⟩
          rw [e1, List.length_append]
          have := HAA.out.own
          simpa [ints] using this
        case measure => simp [intOf]; omega
    · obtain rfl : k = 8 := by omega
      go_wp2_with fail
      go_ret
      exact ⟨A, c, rfl, HO.out, HB.out⟩
end Go.Proofs.Ytgmndppjdnpejaa
