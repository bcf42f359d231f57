/- A table that is none: its answers. -/
import Derived.Test.YtgmndppjdnpejaaB17
namespace Go.Proofs.Ytgmndppjdnpejaa
open Go.RowKit
set_option maxRecDepth 20000
set_option linter.unusedVariables false
set_option linter.unusedSimpArgs false

/-- A receiver of which 'none' says yes, now and later. -/
def NoneP (P : Value) (w : World) : Prop := ∀ w', Below w.heap.size w w' → Calls Try.prog 33 #[P] w' fun e w'' => e = .returned (.bool true) ∧ w' = w''
theorem NoneP.below {P : Value} {w w' : World} (h : NoneP P w) (hb : Below w.heap.size w w') : NoneP P w' := fun v hv => h v (Bt hb hv)
theorem NoneP.now {P : Value} {w : World} (h : NoneP P w) : Calls Try.prog 33 #[P] w fun e w'' => e = .returned (.bool true) ∧ w = w'' := h w (B0 w)
theorem noneP_nil (w : World) : NoneP (.pointer none) w := fun w' _ => none_nil w'
theorem noneP_zero {g : Nat} {tick ver : Int} {mk mn : Option Nat} {w : World} (hb : Blk w g 71 (tbCs 0 tick ver mk mn)) : NoneP (.pointer (some ⟨g, 0, none⟩)) w := fun w' h => none_zero g tick ver mk mn w' (hb.later h)

set_option maxHeartbeats 2000000 in
theorem peer_none (P : Value) (n : Int) (W : World) (h : NoneP P W) :
    Calls Try.prog 45 #[P, .int .i64 n] W fun e w' => e = .returned (.tuple #[zPe.v, .bool false]) ∧ Below W.heap.size W w' := by
  obtain ⟨w1, hw1⟩ : ∃ u, u = W.alloc (.cells zPe.L.toArray 43) := ⟨_, rfl⟩
  have hb1 : Below W.heap.size W w1 := by rw [hw1]; exact Ba (B0 W) _
  have HN := Lib.hid (h.below hb1)
  have HR := Lib.hid (show Blk w1 W.heap.size 43 zPe.L.toArray by rw [hw1]; exact Blk.new _ _ _)
  have HB1 := Lib.hid hb1
  have HW1 := Lib.hid hw1
  clear h hb1 hw1
  go_enter Try.func45, Try.ntmps45
  go_upto_region 1 with fail
  change Code.wp _ _ _ _ (W.alloc (.cells zPe.L.toArray 43))
  rw [← HW1.out]
  go_wp2_with (first | (go_at_call 33; refine HN.out.now.mono ?_; rintro e w' ⟨rfl, rfl⟩) | (refine step_build rfl _ rfl [] rfl zPe.L.toArray (build_peer0 _) ?_) | (refine step_store big_peer rfl (.tmp 4) (.tmp 10) rfl W.heap.size rfl zPe.L zPe_len zPe.one rfl 43 _ HR.out (by simp [zPe_len]) ?_; intro w3 hb3 hm3 hs3; have HF := Lib.hid hb3; have HM3 := Lib.hid hm3; clear hb3 hm3 hs3) | fail)
  refine bodyPost_ret (v := .tuple #[zPe.v, .bool false]) (by simp [results, Try.results45, asAddr, load_big big_peer HF.out zPe_len]) rfl ?_
  exact ⟨rfl, Bm HB1.out HM3.out (fun i hi => by omega)⟩

set_option maxHeartbeats 2000000 in
theorem by_none (P : Value) (n : Int) (W : World) (h : NoneP P W) :
    Calls Try.prog 25 #[P, .int .i64 n] W fun e w' => e = .returned (.tuple #[.agg (bts z32).toArray, .bool false]) ∧ Below W.heap.size W w' := by
  obtain ⟨w1, hw1⟩ : ∃ u, u = W.alloc (.cells (bts z32).toArray 31) := ⟨_, rfl⟩
  have hb1 : Below W.heap.size W w1 := by rw [hw1]; exact Ba (B0 W) _
  have HN := Lib.hid (h.below hb1)
  have HR := Lib.hid (show Blk w1 W.heap.size 31 (bts z32).toArray by rw [hw1]; exact Blk.new _ _ _)
  have HB1 := Lib.hid hb1
  have HW1 := Lib.hid hw1
  obtain ⟨q, hqq⟩ : ∃ q, q = zPe := ⟨_, rfl⟩
  have HQK := Lib.hid (show q.ks.length = 32 by rw [hqq]; exact z32_len)
  have HQL := Lib.hid (show q.L.length = 36 by rw [hqq]; exact zPe_len)
  have HLQ := Lib.hid (show (bts q.ks).length = 32 by rw [bts_length]; exact HQK.out)
  have HLZ := Lib.hid (show (bts z32).length = 32 by rw [bts_length]; exact z32_len)
  have HQQ := Lib.hid hqq
  clear h hb1 hw1 hqq
  go_enter Try.func25, Try.ntmps25
  go_upto_region 1 with fail
  change Code.wp _ _ _ _ (W.alloc (.cells (bts z32).toArray 31))
  rw [← HW1.out]
  go_wp2_with fail
  refine (peer_none P n w1 HN.out).mono ?_
  rintro e w2 ⟨rfl, hb2⟩
  rw [← HQQ.out]
  have HB2 := Lib.hid (Bt HB1.out hb2)
  have HR2 := Lib.hid (HR.out.later hb2)
  have hrw : W.heap.size < w2.heap.size := HR2.out.lt
  clear hb2
  go_wp2_with (first | (refine step_store big_peer rfl (.tmp 6) (.tmp 12) rfl w2.heap.size rfl q.L HQL.out q.one rfl 43 _ (Blk.new w2 43 _) rfl ?_; intro w3 hb3 hm3 hs3; have HP := Lib.hid hb3; have HM3 := Lib.hid hm3; have HR3 := Lib.hid ((HR2.out.alloc _).kept hm3 (by omega)); have HPK := Lib.hid (pe_cells (blk_range hb3) HQK.out).2.1; clear hb3 hm3 hs3) | (refine step_load big_key rfl (.tmp 14) rfl w2.heap.size 1 rfl (bts q.ks) HLQ.out (by have := HPK.out; rwa [Nat.zero_add] at this) ?_) | (refine step_store big_key rfl (.tmp 4) (.tmp 15) rfl W.heap.size rfl (bts q.ks) HLQ.out (bts_one' _) rfl 31 _ HR3.out (by simp [HLZ.out]) ?_; intro w4 hb4 hm4 hs4; have HF := Lib.hid hb4; have HM4 := Lib.hid hm4; clear hb4 hm4 hs4) | fail)
  refine bodyPost_ret (v := .tuple #[.agg (bts q.ks).toArray, .bool false]) (by simp [results, Try.results25, asAddr, load_big big_key HF.out HLQ.out]) rfl ?_
  exact ⟨by rw [HQQ.out]; rfl, Bm (Bm (Ba HB2.out _) HM3.out (fun i hi => by omega)) HM4.out (fun i hi => by omega)⟩

set_option maxHeartbeats 2000000 in
theorem in_none (P : Value) (n port : Int) (W : World) (h : NoneP P W) :
    Calls Try.prog 26 #[P, .int .i64 n, .int .i64 port] W fun e w' => e = .returned (.bool false) ∧ Below W.heap.size W w' := by
  have HN := Lib.hid h
  obtain ⟨q, hqq⟩ : ∃ q, q = zPe := ⟨_, rfl⟩
  have HPE := Lib.hid (show ∀ w, PeAt w (fun _ => False) q by rw [hqq]; exact fun w => zPe_at w _)
  have HQL := Lib.hid (show q.L.length = 36 by rw [hqq]; exact zPe_len)
  have HQQ := Lib.hid hqq
  clear h hqq
  go_enter Try.func26, Try.ntmps26
  go_wp2_with fail
  refine (peer_none P n W HN.out).mono ?_
  rintro e w2 ⟨rfl, hb2⟩
  rw [← HQQ.out]
  have HB2 := Lib.hid hb2
  clear hb2
  go_upto_region 2 with (first | (refine step_store big_peer rfl (.tmp 7) (.tmp 13) rfl w2.heap.size rfl q.L HQL.out q.one rfl 43 _ (Blk.new w2 43 _) rfl ?_; intro w3 hb3 hm3 hs3; have HP := Lib.hid hb3; have HM3 := Lib.hid hm3; clear hb3 hm3 hs3) | fail)
  have hpc := pe_cells (blk_range HP.out) (HPE.out w3).k32
  simp only [Nat.zero_add] at hpc
  have y := hpc.2.2.2.1
  have lp := HP.out.lt
  have HB3 := Lib.hid (show Below W.heap.size W w3 from Bm (Ba HB2.out _) HM3.out (fun i hi => by have := HB2.out.size; omega))
  clear hpc
  go_wp2_with fail
  refine (within_any (fun _ => False) q.IA q.ic q.ins port w3 (HPE.out w3).ri (fun i hi => absurd hi id)).mono ?_
  rintro e w4 ⟨rfl, hb4⟩
  have HB4 := Lib.hid (Bt HB3.out hb4)
  rw [show wiB q.ins port = false by rw [HQQ.out]; rfl]
  clear hb4 y lp
  go_wp2_with fail
  go_ret
  exact ⟨rfl, HB4.out⟩

set_option maxHeartbeats 2000000 in
theorem out_none (P : Value) (n port : Int) (W : World) (h : NoneP P W) :
    Calls Try.prog 27 #[P, .int .i64 n, .int .i64 port] W fun e w' => e = .returned (.bool false) ∧ Below W.heap.size W w' := by
  have HN := Lib.hid h
  obtain ⟨q, hqq⟩ : ∃ q, q = zPe := ⟨_, rfl⟩
  have HPE := Lib.hid (show ∀ w, PeAt w (fun _ => False) q by rw [hqq]; exact fun w => zPe_at w _)
  have HQL := Lib.hid (show q.L.length = 36 by rw [hqq]; exact zPe_len)
  have HQQ := Lib.hid hqq
  clear h hqq
  go_enter Try.func27, Try.ntmps27
  go_wp2_with fail
  refine (peer_none P n W HN.out).mono ?_
  rintro e w2 ⟨rfl, hb2⟩
  rw [← HQQ.out]
  have HB2 := Lib.hid hb2
  clear hb2
  go_upto_region 2 with (first | (refine step_store big_peer rfl (.tmp 7) (.tmp 13) rfl w2.heap.size rfl q.L HQL.out q.one rfl 43 _ (Blk.new w2 43 _) rfl ?_; intro w3 hb3 hm3 hs3; have HP := Lib.hid hb3; have HM3 := Lib.hid hm3; clear hb3 hm3 hs3) | fail)
  have hpc := pe_cells (blk_range HP.out) (HPE.out w3).k32
  simp only [Nat.zero_add] at hpc
  have y := hpc.2.2.2.2
  have lp := HP.out.lt
  have HB3 := Lib.hid (show Below W.heap.size W w3 from Bm (Ba HB2.out _) HM3.out (fun i hi => by have := HB2.out.size; omega))
  clear hpc
  go_wp2_with fail
  refine (within_any (fun _ => False) q.OA q.oc q.outs port w3 (HPE.out w3).ro (fun i hi => absurd hi id)).mono ?_
  rintro e w4 ⟨rfl, hb4⟩
  have HB4 := Lib.hid (Bt HB3.out hb4)
  rw [show wiB q.outs port = false by rw [HQQ.out]; rfl]
  clear hb4 y lp
  go_wp2_with fail
  go_ret
  exact ⟨rfl, HB4.out⟩

set_option maxHeartbeats 2000000 in
theorem key_none (P : Value) (ks : List Int) (W : World) (h : NoneP P W) (hk : ks.length = 32) :
    Calls Try.prog 24 #[P, .agg (bts ks).toArray] W fun e w' => e = .returned (.tuple #[.int .i64 0, .bool false]) ∧ Below W.heap.size W w' := by
  obtain ⟨w1, hw1⟩ : ∃ u, u = W.alloc (.cells (bts ks).toArray 31) := ⟨_, rfl⟩
  have hb1 : Below W.heap.size W w1 := by rw [hw1]; exact Ba (B0 W) _
  have HN := Lib.hid (h.below hb1)
  have HB1 := Lib.hid hb1
  have HW1 := Lib.hid hw1
  clear h hb1 hw1
  go_enter Try.func24, Try.ntmps24
  go_upto_region 1 with fail
  change Code.wp _ _ _ _ (W.alloc (.cells (bts ks).toArray 31))
  rw [← HW1.out]
  go_wp2_with (first | (go_at_call 33; refine HN.out.now.mono ?_; rintro e w' ⟨rfl, rfl⟩) | fail)
  go_ret2
  exact ⟨rfl, HB1.out⟩
theorem version_none (P : Value) (W : World) (h : NoneP P W) :
    Calls Try.prog 28 #[P] W fun e w' => e = .returned (.int .i64 0) ∧ W = w' := by
  have HN := Lib.hid h
  clear h
  go_enter Try.func28, Try.ntmps28
  go_wp2_with (first | (go_at_call 33; refine HN.out.now.mono ?_; rintro e w' ⟨rfl, rfl⟩) | fail)
  go_ret
  exact ⟨rfl, rfl⟩
theorem now_none (P : Value) (t : Int) (W : World) (h : NoneP P W) :
    Calls Try.prog 16 #[P, .int .i64 t] W fun e w' => e = .returned (.int .i64 1) ∧ W = w' := by
  have HN := Lib.hid h
  clear h
  go_enter Try.func16, Try.ntmps16
  go_wp2_with (first | (go_at_call 33; refine HN.out.now.mono ?_; rintro e w' ⟨rfl, rfl⟩) | fail)
  go_ret
  exact ⟨rfl, rfl⟩
set_option maxHeartbeats 2000000 in
theorem set_none (P : Value) (m : Nm) (W : World) (h : NoneP P W) :
    Calls Try.prog 13 #[P, m.v] W fun e w' => e = .returned (.int .i64 1) ∧ Below W.heap.size W w' := by
  obtain ⟨w1, hw1⟩ : ∃ u, u = W.alloc (.cells m.L.toArray 34) := ⟨_, rfl⟩
  have hb1 : Below W.heap.size W w1 := by rw [hw1]; exact Ba (B0 W) _
  have HN := Lib.hid (h.below hb1)
  have HB1 := Lib.hid hb1
  have HW1 := Lib.hid hw1
  clear h hb1 hw1
  go_enter Try.func13, Try.ntmps13
  go_upto_region 1 with fail
  change Code.wp _ _ _ _ (W.alloc (.cells m.L.toArray 34))
  rw [← HW1.out]
  go_wp2_with (first | (go_at_call 33; refine HN.out.now.mono ?_; rintro e w' ⟨rfl, rfl⟩) | fail)
  go_ret
  exact ⟨rfl, HB1.out⟩

set_option maxHeartbeats 2000000 in
theorem list_none_ (P : Value) (W : World) (h : NoneP P W) :
    Calls Try.prog 23 #[P] W fun e w' => e = .returned (.slice none 0 0) ∧ Below W.heap.size W w' := by
  have HN := Lib.hid h
  clear h
  go_enter Try.func23, Try.ntmps23
  go_wp2_with fail
  go_loopw [3, 7] (fun o i wr => ∃ k : Nat, k ≤ 8 ∧ i = .int .i64 k ∧ o = .slice none 0 0 ∧ Below W.heap.size W wr) (fun _ i _ => 8 - (intOf i).toNat)
  case atStart => exact ⟨0, by omega, rfl, rfl, B0 _⟩
  case round =>
    obtain ⟨k, hk, rfl, rfl, hb⟩ := hrel
    obtain ⟨wv, rfl⟩ : ∃ wv, wv = wr := ⟨_, rfl⟩
    have HB := Lib.hid hb
    clear hb
    by_cases hlt : k < 8
    · have hk0 : (0 : Int) ≤ (k : Int) := by omega
      have hk8 : (k : Int) < 8 := by omega
      go_wp2_with fail
      refine (peer_none P ((k : Int) + 1) wv (HN.out.below HB.out)).mono ?_
      rintro e w2 ⟨rfl, hb2⟩
      obtain ⟨q, hqq⟩ : ∃ q, q = zPe := ⟨_, rfl⟩
      rw [← hqq]
      have HQL := Lib.hid (show q.L.length = 36 by rw [hqq]; exact zPe_len)
      have HB2 := Lib.hid (Bt HB.out hb2)
      clear hb2 hqq
      go_upto_region 6 with (first | (refine step_store big_peer rfl (.tmp 5) (.tmp 15) rfl w2.heap.size rfl q.L HQL.out q.one rfl 43 _ (Blk.new w2 43 _) rfl ?_; intro w3 hb3 hm3 hs3; have HM3 := Lib.hid hm3; clear hb3 hm3 hs3) | fail)
      have HB3 := Lib.hid (show Below W.heap.size W w3 from Bm (Ba HB2.out _) HM3.out (fun i hi => by have := HB2.out.size; omega))
      go_wp2_with fail
      go_roundw
      case rel => exact ⟨k + 1, by omega, by go_num, rfl, HB3.out⟩
      case measure => simp [intOf]; omega
    · obtain rfl : k = 8 := by omega
      go_wp2_with fail
      go_ret
      exact ⟨rfl, HB.out⟩
end Go.Proofs.Ytgmndppjdnpejaa
