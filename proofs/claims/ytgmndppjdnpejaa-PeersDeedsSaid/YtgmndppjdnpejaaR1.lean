/- The document's netmap: number, node, spans, own. -/
import Derived.Test.YtgmndppjdnpejaaB23
namespace Go.Proofs.Ytgmndppjdnpejaa
open Go.RowKit
set_option maxRecDepth 20000
set_option linter.unusedVariables false
set_option linter.unusedSimpArgs false

theorem build_k0r (w : World) : (Instr.build 31 ([] : List (Nat × Value)).toArray).run Try.prog w = .ok (.agg (bts z32).toArray) w := by kernel_rfl
theorem rnumber_any (n : Int) (w : World) : Calls Try.prog 48 #[.int .i64 n] w fun e w' => e = .returned (.bool (nuB n)) ∧ w = w' := by
  unfold nuB
  by_cases h : 0 ≤ n
  · have h' : decide (0 ≤ n) = true := by simpa using h
    rw [h']
    go_enter Try.func48, Try.ntmps48
    go_wp2
    go_ret
    exact ⟨by simp, rfl⟩
  · have h' : decide (0 ≤ n) = false := by simpa using h
    rw [h']
    go_enter Try.func48, Try.ntmps48
    go_wp2
    go_ret
    exact ⟨by simp, rfl⟩
theorem rnode_any (n : Int) (w : World) : Calls Try.prog 49 #[.int .i64 n] w fun e w' => e = .returned (.bool (ndB n)) ∧ w = w' := by
  unfold ndB
  by_cases h : 1 ≤ n
  · have h' : decide (1 ≤ n) = true := by simpa using h
    rw [h']
    go_enter Try.func49, Try.ntmps49
    go_wp2
    go_ret
    exact ⟨by simp, rfl⟩
  · have h' : decide (1 ≤ n) = false := by simpa using h
    rw [h']
    go_enter Try.func49, Try.ntmps49
    go_wp2
    go_ret
    exact ⟨by simp, rfl⟩
theorem rnumber_is {n : Int} {r : Bool} (h : nuB n = r) (w : World) : Calls Try.prog 48 #[.int .i64 n] w fun e w' => e = .returned (.bool r) ∧ w = w' := h ▸ rnumber_any n w
theorem rnode_is {n : Int} {r : Bool} (h : ndB n = r) (w : World) : Calls Try.prog 49 #[.int .i64 n] w fun e w' => e = .returned (.bool r) ∧ w = w' := h ▸ rnode_any n w

/-- The High ahead of place k. -/
def prevH (l : List Sp) (k : Nat) (t : Int) : Prop := (k = 0 ∧ t = -2) ∨ ∃ (j : Nat) (hj : j < l.length), k = j + 1 ∧ t = (l[j]).hi ∧ -2 ≤ t ∧ t ≤ 65535
set_option maxHeartbeats 4000000 in
theorem rspans_any (S : Nat → Prop) (A : Option Addr) (c : Nat) (l : List Sp) (w : World) (hr : Rd w S 2 (.slice A l.length c) l.length (rowS l)) (hS : ∀ i, S i → i < w.heap.size) :
    Calls Try.prog 61 #[.slice A l.length c] w fun e w' => e = .returned (.bool (spB l)) ∧ ∃ n, w' = w.drewN n := by
  have hcap := hr.cap.2
  have hc1 := hcap.1
  have hc2 := hcap.2
  unfold maxLen at hc2
  have HR := Lib.hid hr
  clear hr hS hcap
  go_enter Try.func61, Try.ntmps61
  go_wp2_with fail
  go_loopw [3] (fun i wr => ∃ (k : Nat) (t : Int), k ≤ l.length ∧ i = .int .i64 k ∧ prevH l k t ∧ spG (-2) l = spG t (l.drop k) ∧ ∃ n, wr = w.drewN n) (fun i _ => l.length - (intOf i).toNat)
  case atStart => exact ⟨0, -2, Nat.zero_le _, rfl, .inl ⟨rfl, rfl⟩, by simp, 0, rfl⟩
  case round =>
    obtain ⟨k, t, hk, rfl, hpv, he, n, rfl⟩ := hrel
    by_cases hlt : k < l.length
    · have hlt' : (k : Int) < (l.length : Int) := by omega
      have hk0 : (0 : Int) ≤ (k : Int) := by omega
      rw [spG_next hlt] at he
      obtain ⟨g, o, hA, hg, c0, c1⟩ := span_at HR.out hlt
      have hpc : ∀ j (hj : j < l.length), w.cell? ⟨g, o + j * 2 + 1, none⟩ = some (.int .i64 (l[j]).hi) := fun j hj => by
        obtain ⟨g', o', hA', _, _, h1⟩ := span_at HR.out hj
        rw [hA] at hA'
        injection hA' with hA'
        injection hA' with e1 e2
        subst e1 e2
        exact h1
      subst hA
      obtain ⟨lo, hlo⟩ : ∃ x, x = (l[k]).lo := ⟨_, rfl⟩
      obtain ⟨hi, hhi⟩ : ∃ x, x = (l[k]).hi := ⟨_, rfl⟩
      rw [← hlo] at he c0
      rw [← hhi] at he c1
      have HHI := Lib.hid hhi
      have HE := Lib.hid he
      have HF : Hid ((decide (t + 1 < lo) && (decide (0 ≤ lo) && (decide (lo ≤ hi) && decide (hi ≤ 65535)))) = false → spB l = false) := Lib.hid (fun h => by unfold spB; rw [HE.out, h]; rfl)
      have HPC := Lib.hid hpc
      clear he hlo hhi hg hpc
      rcases hpv with ⟨h0, rfl⟩ | ⟨j, hj, rfl, rfl, ht1, ht2⟩
      · have hk00 : decide ((0 : Int) < (k : Int)) = false := by simp [h0]
        have hk01 : decide (0 < k) = false := by simp [h0]
        have H0 := Lib.hid h0
        clear h0
        by_cases q2 : lo < 0
        · go_wp2_with fail
          go_quiet (fail)
          go_wp2_with fail
          go_ret
          exact ⟨ret_bool (HF.out (by rw [decide_eq_false (p := (0 : Int) ≤ lo) (by omega)]; simp)).symm, _, World.drewN_drewN ..⟩
        · have q2' : decide (lo < 0) = false := decide_eq_false q2
          by_cases q3 : hi < lo
          · go_wp2_with fail
            go_quiet (fail)
            go_wp2_with fail
            go_ret
            exact ⟨ret_bool (HF.out (by rw [decide_eq_false (p := lo ≤ hi) (by omega)]; simp)).symm, _, World.drewN_drewN ..⟩
          · have q3' : decide (hi < lo) = false := decide_eq_false q3
            by_cases q4 : 65535 < hi
            · go_wp2_with fail
              go_quiet (fail)
              go_wp2_with fail
              go_ret
              exact ⟨ret_bool (HF.out (by rw [decide_eq_false (p := hi ≤ 65535) (by omega)]; simp)).symm, _, World.drewN_drewN ..⟩
            · have q4' : decide (65535 < hi) = false := decide_eq_false q4
              go_wp2_with fail
              go_quiet (fail)
              go_wp2_with fail
              go_roundw
              case rel => exact ⟨k + 1, hi, by omega, by go_num, .inr ⟨k, hlt, rfl, HHI.out, by omega, by omega⟩, by rw [HE.out, decide_eq_true (p := (-2 : Int) + 1 < lo) (by omega), decide_eq_true (p := 0 ≤ lo) (by omega), decide_eq_true (p := lo ≤ hi) (by omega), decide_eq_true (p := hi ≤ 65535) (by omega)]; rfl, _, rfl⟩
              case measure => simp [intOf]; omega
      · obtain ⟨ph, hph⟩ : ∃ x, x = (l[j]).hi := ⟨_, rfl⟩
        have cp := HPC.out j hj
        rw [← hph] at ht1 ht2 cp
        rw [← hph] at HE HF
        have hk00 : decide ((0 : Int) < ((j + 1 : Nat) : Int)) = true := by simp
        clear hph
        by_cases q2 : lo < 0
        · go_wp2_with fail
          go_quiet (fail)
          go_wp2_with fail
          go_ret
          exact ⟨ret_bool (HF.out (by rw [decide_eq_false (p := (0 : Int) ≤ lo) (by omega)]; simp)).symm, _, World.drewN_drewN ..⟩
        · have q2' : decide (lo < 0) = false := decide_eq_false q2
          by_cases q3 : hi < lo
          · go_wp2_with fail
            go_quiet (fail)
            go_wp2_with fail
            go_ret
            exact ⟨ret_bool (HF.out (by rw [decide_eq_false (p := lo ≤ hi) (by omega)]; simp)).symm, _, World.drewN_drewN ..⟩
          · have q3' : decide (hi < lo) = false := decide_eq_false q3
            by_cases q4 : 65535 < hi
            · go_wp2_with fail
              go_quiet (fail)
              go_wp2_with fail
              go_ret
              exact ⟨ret_bool (HF.out (by rw [decide_eq_false (p := hi ≤ 65535) (by omega)]; simp)).symm, _, World.drewN_drewN ..⟩
            · have q4' : decide (65535 < hi) = false := decide_eq_false q4
              by_cases q1 : lo ≤ ph + 1
              · go_wp2_with fail
                go_quiet (fail)
                go_wp2_with fail
                go_ret
                exact ⟨ret_bool (HF.out (by rw [decide_eq_false (p := ph + 1 < lo) (by omega)]; rfl)).symm, _, World.drewN_drewN ..⟩
              · have q1' : decide (lo ≤ ph + 1) = false := decide_eq_false q1
                go_wp2_with fail
                go_quiet (fail)
                go_wp2_with fail
                go_roundw
                case rel => exact ⟨j + 1 + 1, hi, by omega, by go_num, .inr ⟨j + 1, hlt, rfl, HHI.out, by omega, by omega⟩, by rw [HE.out, decide_eq_true (p := ph + 1 < lo) (by omega), decide_eq_true (p := 0 ≤ lo) (by omega), decide_eq_true (p := lo ≤ hi) (by omega), decide_eq_true (p := hi ≤ 65535) (by omega)]; rfl, _, rfl⟩
                case measure => simp [intOf]; omega
    · obtain rfl : k = l.length := by omega
      have HT : Hid (spB l = decide ((l.length : Int) ≤ 33)) := Lib.hid (by unfold spB; rw [he, List.drop_of_length_le (Nat.le_refl _)]; rfl)
      clear he hpv
      go_wp2_with fail
      go_ret
      exact ⟨ret_bool HT.out.symm, n, rfl⟩
/-- own: may these be a node's key and expiry? -/
def owB (c : Int) (ks : List Int) (ex : Int) : Bool := if ks = z32 then ex == 0 else nuB ex && decide (c < ex)
set_option maxHeartbeats 1000000 in
theorem own_any (c ex : Int) (ks : List Int) (W : World) (hk : ks.length = 32) :
    Calls Try.prog 50 #[.int .i64 c, .agg (bts ks).toArray, .int .i64 ex] W fun e w' => e = .returned (.bool (owB c ks ex)) ∧ Below W.heap.size W w' := by
  obtain ⟨w1, hw1⟩ : ∃ u, u = W.alloc (.cells (bts ks).toArray 31) := ⟨_, rfl⟩
  have HR := Lib.hid (show Blk w1 W.heap.size 31 (bts ks).toArray by rw [hw1]; exact Blk.new _ _ _)
  have HB1 := Lib.hid (show Below W.heap.size W w1 by rw [hw1]; exact Ba (B0 W) _)
  have HW1 := Lib.hid hw1
  have HLK := Lib.hid (show (bts ks).length = 32 by rw [bts_length]; exact hk)
  have HK := Lib.hid hk
  clear hw1 hk
  by_cases hz : ks = z32
  · have HZ := Lib.hid hz
    have HQ := Lib.hid (show (ks == z32) = true by simp [hz])
    have HE := Lib.hid (show owB c ks ex = (ex == 0) from if_pos hz)
    clear hz
    go_enter Try.func50, Try.ntmps50
    go_upto_region 1 with fail
    change Code.wp _ _ _ _ (W.alloc (.cells (bts ks).toArray 31))
    rw [← HW1.out]
    go_wp2_with (first | (refine step_load big_key (by first | rfl | simp [Region.wanted, yielded]) (.tmp 4) rfl W.heap.size 0 rfl (bts ks) HLK.out (blk_range HR.out) ?_) | (refine step_build (t := 31) (by first | rfl | simp [Region.wanted, yielded]) _ rfl [] rfl (bts z32).toArray (build_k0r _) ?_) | (refine step_eqK (by first | rfl | simp [Region.wanted, yielded]) .eql (.inl rfl) (.tmp 7) (.tmp 8) rfl ks z32 rfl rfl HK.out z32_len true (by rw [if_pos rfl]; exact HQ.out) ?_) | fail)
    go_ret
    exact ⟨ret_bool HE.out.symm, HB1.out⟩
  · have HZ := Lib.hid hz
    have HQ := Lib.hid (show (ks == z32) = false by simp [hz])
    have HE := Lib.hid (show owB c ks ex = (nuB ex && decide (c < ex)) from if_neg hz)
    clear hz
    obtain ⟨b, hb⟩ : ∃ b, nuB ex = b := ⟨_, rfl⟩
    have HN := Lib.hid hb
    clear hb
    go_enter Try.func50, Try.ntmps50
    go_upto_region 1 with fail
    change Code.wp _ _ _ _ (W.alloc (.cells (bts ks).toArray 31))
    rw [← HW1.out]
    go_wp2_with (first | (refine step_load big_key (by first | rfl | simp [Region.wanted, yielded]) (.tmp 4) rfl W.heap.size 0 rfl (bts ks) HLK.out (blk_range HR.out) ?_) | (refine step_build (t := 31) (by first | rfl | simp [Region.wanted, yielded]) _ rfl [] rfl (bts z32).toArray (build_k0r _) ?_) | (refine step_eqK (by first | rfl | simp [Region.wanted, yielded]) .eql (.inl rfl) (.tmp 7) (.tmp 8) rfl ks z32 rfl rfl HK.out z32_len false (by rw [if_pos rfl]; exact HQ.out) ?_) | fail)
    refine (rnumber_is HN.out w1).mono ?_
    rintro e w' ⟨rfl, rfl⟩
    cases b
    · go_wp2_with fail
      go_ret
      exact ⟨ret_bool (by rw [HE.out, HN.out]; rfl), HB1.out⟩
    · go_wp2_with fail
      go_ret
      exact ⟨ret_bool (by rw [HE.out, HN.out]; rfl), HB1.out⟩
end Go.Proofs.Ytgmndppjdnpejaa
