/- Lists of numbers that are the same; the chapter's netmap; the table that tells just the peer 2. -/
import Derived.Test.YtgmndppjdnpejaaB15
namespace Go.Proofs.Ytgmndppjdnpejaa
open Go.RowKit
set_option maxRecDepth 20000
set_option linter.unusedVariables false
set_option linter.unusedSimpArgs false

theorem ints_at (l : List Int) (k : Nat) (hk : k < l.length) : (ints l)[k]? = some (.int .i64 l[k]) := by simp [ints, hk]
set_option maxHeartbeats 1000000 in
theorem ints_same (S T : Nat → Prop) (A1 A2 : Option Addr) (c1 c2 : Nat) (l : List Int) (w : World) (h1 : Rd w S 1 (.slice A1 l.length c1) l.length (ints l)) (h2 : Rd w T 1 (.slice A2 l.length c2) l.length (ints l)) :
    Calls Try.prog 29 #[.slice A1 l.length c1, .slice A2 l.length c2] w fun e w' => e = .returned (.bool true) ∧ ∃ n, w' = w.drewN n := by
  have hcap := h1.cap.2
  have hc1 := hcap.1
  have hc2 := hcap.2
  unfold maxLen at hc2
  have H1 := Lib.hid h1
  have H2 := Lib.hid h2
  clear h1 h2 hcap
  go_enter Try.func29, Try.ntmps29
  go_wp2_with fail
  go_loopw [5] (fun i wr => ∃ k : Nat, k ≤ l.length ∧ i = .int .i64 k ∧ ∃ n, wr = w.drewN n) (fun i _ => l.length - (intOf i).toNat)
  case atStart => exact ⟨0, by omega, rfl, 0, rfl⟩
  case round =>
    obtain ⟨k, hk, rfl, n, rfl⟩ := hrel
    by_cases hlt : k < l.length
    · have hlt' : (k : Int) < (l.length : Int) := by omega
      have hk0 : (0 : Int) ≤ (k : Int) := by omega
      obtain ⟨g1, o1, hA1, _, hc⟩ := H1.out.some_ (by omega)
      obtain ⟨g2, o2, hA2, _, hd⟩ := H2.out.some_ (by omega)
      subst hA1 hA2
      obtain ⟨x, hx⟩ : ∃ x, x = l[k] := ⟨_, rfl⟩
      obtain ⟨y, hy⟩ : ∃ y, y = l[k] := ⟨_, rfl⟩
      have d1 : w.cell? ⟨g1, o1 + k, none⟩ = some (.int .i64 x) := hc k _ (by rw [ints_at l k hlt, hx])
      have d2 : w.cell? ⟨g2, o2 + k, none⟩ = some (.int .i64 y) := hd k _ (by rw [ints_at l k hlt, hy])
      have hb : (x != y) = false := by rw [hx, hy]; simp
      clear hc hd hx hy
      go_wp2
      go_quiet (fail)
      go_wp2
      go_roundw
      case rel => exact ⟨k + 1, by omega, by go_num, n + nq, rfl⟩
      case measure => simp [intOf]; omega
    · obtain rfl : k = l.length := by omega
      go_wp2_with fail
      go_ret
      exact ⟨rfl, n, rfl⟩

def k1 : List Int := 1 :: List.replicate 31 0
def k2 : List Int := 2 :: List.replicate 31 0
theorem k1_len : k1.length = 32 := by simp [k1]
theorem k2_len : k2.length = 32 := by simp [k2]
theorem k1_byt : Byt k1 := fun x hx => by
  rcases List.mem_cons.1 hx with rfl | hx
  · omega
  · have := List.eq_of_mem_replicate hx; omega
theorem k2_byt : Byt k2 := fun x hx => by
  rcases List.mem_cons.1 hx with rfl | hx
  · omega
  · have := List.eq_of_mem_replicate hx; omega
theorem build_k1 (w : World) : (Instr.build 31 ([(0, .int .u8 1)] : List (Nat × Value)).toArray).run Try.prog w = .ok (.agg (bts k1).toArray) w := by kernel_rfl
theorem build_k2 (w : World) : (Instr.build 31 ([(0, .int .u8 2)] : List (Nat × Value)).toArray).run Try.prog w = .ok (.agg (bts k2).toArray) w := by kernel_rfl
/-- The chapter's peer and netmap: its spans in block gs, its peers in block gp. -/
def p2 (gs : Nat) : Pe := ⟨2, k2, 60, none, 0, [], some ⟨gs, 0, none⟩, 1, [⟨80, 90⟩]⟩
def chap (v : Int) (gs gp : Nat) : Nm := ⟨v, 0, 1, k1, 50, some ⟨gp, 0, none⟩, 1, [p2 gs]⟩
def mapPl : Array (Nat × Nat) := #[(0, 1), (1, 1), (2, 1), (3, 32), (35, 1), (36, 1)]
def zNm : Nm := ⟨0, 0, 0, z32, 0, none, 0, []⟩
theorem zero_map (w : World) : (zeroValue 34).run Try.prog w = .ok zNm.v w := by kernel_rfl
theorem places_map (w : World) : ((Try.prog.fieldsOf 34).mapM (fun f => do pure (f.offset, ← sizeOf f.type)) : Sem _).run Try.prog w = .ok mapPl w := by kernel_rfl
theorem under_map : Try.prog.underlying 34 = some (.struct (Try.prog.fieldsOf 34)) := by kernel_rfl
theorem build_p2 (gs : Nat) (w : World) : (Instr.build 43 ([(0, .int .i64 2), (1, .agg (bts k2).toArray), (2, .int .i64 60), (4, .slice (some ⟨gs, 0, none⟩) 1 1)] : List (Nat × Value)).toArray).run Try.prog w = .ok (.agg (p2 gs).L.toArray) w :=
  run_build under_peer zero_peer places_peer (by kernel_rfl) w
theorem build_chap (v : Int) (gs gp : Nat) (w : World) : (Instr.build 34 ([(0, .int .i64 v), (2, .int .i64 1), (3, .agg (bts k1).toArray), (4, .int .i64 50), (5, .slice (some ⟨gp, 0, none⟩) 1 1)] : List (Nat × Value)).toArray).run Try.prog w = .ok (.agg (chap v gs gp).L.toArray) w :=
  run_build under_map zero_map places_map (by kernel_rfl) w
theorem size_peer (w : World) : (sizeOf 43).run Try.prog w = .ok 36 w := by kernel_rfl
def ChapDid (v : Int) (w : World) (e : Ending) (w' : World) : Prop := ∃ gs gp, e = .returned (chap v gs gp).v ∧ NmAt w' (fun i => w.heap.size ≤ i ∧ i < w'.heap.size) (chap v gs gp) ∧ Below w.heap.size w w'
set_option maxHeartbeats 600000 in
theorem chapter_any (v : Int) (W : World) : Calls Try.prog 30 #[.int .i64 v] W (ChapDid v W) := by
  obtain ⟨w1, hw1⟩ : ∃ u, u = W.alloc (.cells zNm.L.toArray 34) := ⟨_, rfl⟩
  have HR := Lib.hid (show Blk w1 W.heap.size 34 zNm.L.toArray by rw [hw1]; exact Blk.new _ _ _)
  have HB1 := Lib.hid (show Below W.heap.size W w1 by rw [hw1]; exact Ba (B0 W) _)
  have HW1 := Lib.hid hw1
  obtain ⟨K1, hK1⟩ : ∃ K, K = bts k1 := ⟨_, rfl⟩
  obtain ⟨K2, hK2⟩ : ∃ K, K = bts k2 := ⟨_, rfl⟩
  obtain ⟨P2, hP2⟩ : ∃ K, K = (p2 w1.heap.size).L := ⟨_, rfl⟩
  obtain ⟨CH, hCH⟩ : ∃ K, K = (chap v w1.heap.size (w1.heap.size + 1)).L := ⟨_, rfl⟩
  have HBK1 := Lib.hid (show ∀ w, (Instr.build 31 ([(0, .int .u8 1)] : List (Nat × Value)).toArray).run Try.prog w = .ok (.agg K1.toArray) w by rw [hK1]; exact build_k1)
  have HBK2 := Lib.hid (show ∀ w, (Instr.build 31 ([(0, .int .u8 2)] : List (Nat × Value)).toArray).run Try.prog w = .ok (.agg K2.toArray) w by rw [hK2]; exact build_k2)
  have HBP2 := Lib.hid (show ∀ w, (Instr.build 43 ([(0, .int .i64 2), (1, .agg K2.toArray), (2, .int .i64 60), (4, .slice (some ⟨w1.heap.size, 0, none⟩) 1 1)] : List (Nat × Value)).toArray).run Try.prog w = .ok (.agg P2.toArray) w by rw [hK2, hP2]; exact build_p2 _)
  have HBCH := Lib.hid (show ∀ w, (Instr.build 34 ([(0, .int .i64 v), (2, .int .i64 1), (3, .agg K1.toArray), (4, .int .i64 50), (5, .slice (some ⟨w1.heap.size + 1, 0, none⟩) 1 1)] : List (Nat × Value)).toArray).run Try.prog w = .ok (.agg CH.toArray) w by rw [hK1, hCH]; exact build_chap v _ _)
  have HP2 := Lib.hid (show P2.length = 36 by rw [hP2]; exact Pe.len k2_len)
  have HLC := Lib.hid (show CH.length = 37 by rw [hCH]; exact Nm.len k1_len)
  have HLZ := Lib.hid (show zNm.L.length = 37 from Nm.len z32_len)
  have HC1 := Lib.hid (show ∀ u ∈ CH, u.oneCell' = true by rw [hCH]; exact Nm.one _)
  have HPQ := Lib.hid hP2
  have HCQ := Lib.hid hCH
  clear hK1 hK2 hP2 hCH
  clear hw1
  go_enter Try.func30, Try.ntmps30
  go_upto_region 1 with fail
  change Code.wp _ _ _ _ (W.alloc (.cells zNm.L.toArray 34))
  rw [← HW1.out]
  go_wp2_with (first | (refine step_build (t := 31) rfl _ rfl [(0, .int .u8 1)] rfl K1.toArray (HBK1.out _) ?_) | (refine step_build (t := 31) rfl _ rfl [(0, .int .u8 2)] rfl K2.toArray (HBK2.out _) ?_) | (refine step_build (t := 43) rfl _ rfl [(0, .int .i64 2), (1, .agg K2.toArray), (2, .int .i64 60), (4, .slice (some ⟨w1.heap.size, 0, none⟩) 1 1)] rfl P2.toArray (HBP2.out _) ?_) | (refine step_rows (t := 32) Try.underlying32 size_peer _ zero_peer (by omega) (by omega) rfl _ rfl [P2] rfl (by intro x hx; rw [List.mem_singleton] at hx; rw [hx]; exact HP2.out) rfl P2 (by simp) ?_) | (refine step_build (t := 34) rfl _ rfl [(0, .int .i64 v), (2, .int .i64 1), (3, .agg K1.toArray), (4, .int .i64 50), (5, .slice (some ⟨w1.heap.size + 1, 0, none⟩) 1 1)] (by first | rfl | simp [Act.eval, Act.put]) CH.toArray (HBCH.out _) ?_) | (refine step_store big_map rfl (.tmp 2) (.tmp 10) rfl W.heap.size rfl CH HLC.out HC1.out rfl 34 _ ((HR.out.alloc _).alloc _) (by simp [HLZ.out]) ?_; intro w4 hb4 hm4 hs4; have HF := Lib.hid hb4; have HM4 := Lib.hid hm4; clear hb4 hm4 hs4) | fail)
  have hpb : PeAt (((w1.alloc (.cells #[.int .i64 80, .int .i64 90] 45)).alloc (.cells P2.toArray 43))) (fun i => i = w1.heap.size) (p2 w1.heap.size) := by
    have b : Blk ((w1.alloc (.cells #[.int .i64 80, .int .i64 90] 45)).alloc (.cells P2.toArray 43)) w1.heap.size 45 #[.int .i64 80, .int .i64 90] := (Blk.new w1 _ _).alloc _
    refine ⟨k2_len, k2_byt, Rd.nil _ _ _, rfl, _, _, rfl, Nat.le_refl _, by show 1 ≤ maxLen; unfold maxLen; omega, fun _ => ⟨w1.heap.size, 0, rfl, rfl, fun j u hu => ?_⟩⟩
    rw [Nat.zero_add, b.cell j]
    have hu' : ([.int .i64 80, .int .i64 90] : List Value)[j]? = some u := hu
    simpa using hu'
  have hw := HB1.out.size
  have hlt := HR.out.lt
  refine bodyPost_ret (v := .agg CH.toArray) (by simp [results, Try.results30, asAddr, Act.put, load_big big_map HF.out HLC.out]) rfl ?_
  have hBel : Below W.heap.size W w4 := Bm (Ba (Ba HB1.out _) _) HM4.out (fun i hi => by omega)
  refine ⟨w1.heap.size, w1.heap.size + 1, by rw [HCQ.out], ⟨k1_len, k1_byt, ?_, fun p hp => ?_⟩, hBel⟩
  · refine ⟨by rw [show (chap v w1.heap.size (w1.heap.size + 1)).ps = [p2 w1.heap.size] from rfl]; simp [rowP, Pe.len (p := p2 w1.heap.size) k2_len], _, _, rfl, Nat.le_refl _, by show 1 ≤ maxLen; unfold maxLen; omega, fun _ => ⟨w1.heap.size + 1, 0, rfl, ⟨by omega, ?_⟩, fun j u hu => ?_⟩⟩
    · have := HM4.out.size; simp at this; omega
    · have b : Blk ((w1.alloc (.cells #[.int .i64 80, .int .i64 90] 45)).alloc (.cells P2.toArray 43)) (w1.heap.size + 1) 43 P2.toArray := Blk.new1 w1 _ _ _
      rw [Nat.zero_add, (b.kept HM4.out (fun e => by omega)).cell j, HPQ.out]
      simpa [rowP, chap] using hu
  · have hp' : p = p2 w1.heap.size := by simpa [chap] using hp
    subst hp'
    refine (hpb.kept HM4.out (fun i hi e => by omega)).mono' (fun i hi => ⟨by omega, ?_⟩)
    have := HM4.out.size
    simp at this
    omega
end Go.Proofs.Ytgmndppjdnpejaa
