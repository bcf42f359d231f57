/- The document's table: those that count; within. -/
import Derived.Test.YtgmndppjdnpejaaR8
namespace Go.Proofs.Ytgmndppjdnpejaa
open Go.RowKit
set_option maxRecDepth 20000
set_option linter.unusedVariables false
set_option linter.unusedSimpArgs false

def cntP (tick : Int) (ps : List Pe) : List Pe := ps.filter (fun p => decide (tick < p.ex))
theorem cntP_take {tick : Int} {ps : List Pe} {k : Nat} (hk : k < ps.length) : cntP tick (ps.take (k + 1)) = cntP tick (ps.take k) ++ (if tick < (ps[k]).ex then [ps[k]] else []) := by
  unfold cntP
  rw [List.take_succ_eq_append_getElem hk, List.filter_append]
  by_cases h : tick < (ps[k]).ex
  · rw [if_pos h]; simp [h]
  · rw [if_neg h]; simp [h]
theorem cntP_len (tick : Int) (ps : List Pe) (k : Nat) : (cntP tick (ps.take k)).length ≤ k := by
  unfold cntP
  exact Nat.le_trans (List.length_filter_le _ _) (by simp; omega)
def RPsDid (qs : List Pe) (W : World) (e : Ending) (w' : World) : Prop := ∃ A c, e = .returned (.slice A qs.length c) ∧ w'.ownsRow W.heap.size 43 36 (.slice A qs.length c) qs.length (rowP qs) ∧ Below W.heap.size W w'
set_option maxHeartbeats 4000000 in
theorem rps_any (S : Nat → Prop) (g : Nat) (node tick : Int) (has : Bool) (m : Nm) (W : World) (h : RtAt W S g node has m tick) (z0 : m.ps.length * 96 ≤ 140737488355328) :
    Calls Try.prog 53 #[.pointer (some ⟨g, 0, none⟩)] W (RPsDid (cntP tick m.ps) W) := by
  obtain ⟨i0, hi0, hz0, hz1, hz2⟩ := info_parts infoP
  have hcap := h.nm.rp.cap.2
  have hc1 := hcap.1
  have hc2 := hcap.2
  unfold maxLen at hc2
  have HT := Lib.hid h
  obtain ⟨ps, hps⟩ : ∃ ps, ps = m.ps := ⟨_, rfl⟩
  have HPS := Lib.hid hps
  rw [← hps] at hc1 z0 ⊢
  clear h hcap hps
  go_enter Try.func53, Try.ntmps53
  go_wp2_with fail
  go_loopw [3, 4] (fun o i wr => ∃ (k : Nat) (B : Option Addr) (c : Nat), k ≤ ps.length ∧ i = .int .i64 k ∧ o = .slice B (cntP tick (ps.take k)).length c ∧ wr.ownsRow W.heap.size 43 36 (.slice B (cntP tick (ps.take k)).length c) (cntP tick (ps.take k)).length (rowP (cntP tick (ps.take k))) ∧ Below W.heap.size W wr) (fun _ i _ => ps.length - (intOf i).toNat)
  case atStart => exact ⟨0, none, 0, Nat.zero_le _, rfl, rfl, World.ownsRow_nil _ _ _ _, B0 _⟩
  case round =>
    obtain ⟨k, B, c, hk, rfl, rfl, ho, hb⟩ := hrel
    obtain ⟨wv, rfl⟩ : ∃ wv, wv = wr := ⟨_, rfl⟩
    have HB := Lib.hid hb
    have HO := Lib.hid ho
    have HTV := Lib.hid (HT.out.below hb)
    obtain ⟨y0, y1, y2, y38, y39⟩ := rt_cells HTV.out.blk HTV.out.nm.k32
    rw [← HPS.out] at y38
    have lt := HTV.out.blk.lt
    obtain ⟨nn, hnn⟩ : ∃ n, n = (cntP tick (ps.take k)).length := ⟨_, rfl⟩
    have hnk : nn ≤ k := by rw [hnn]; exact cntP_len tick ps k
    have HNN := Lib.hid hnn
    rw [← hnn] at HO ⊢
    clear ho hb y0 y1 y2 hnn
    by_cases hlt : k < ps.length
    · have hlt' : (k : Int) < (ps.length : Int) := by omega
      have hk0 : (0 : Int) ≤ (k : Int) := by omega
      have hrp := HTV.out.nm.rp
      rw [← HPS.out] at hrp
      obtain ⟨gp, op, hA, hgp, hra⟩ := row_at hrp (fun p hp => Pe.len (HTV.out.nm.each p (by rw [← HPS.out]; exact hp)).k32) hlt
      rw [hA] at y38
      obtain ⟨p, hp⟩ : ∃ p, p = ps[k] := ⟨_, rfl⟩
      rw [← hp] at hra
      have HP := Lib.hid hp
      have HRA := Lib.hid hra
      have hp32 : p.ks.length = 32 := by rw [hp]; exact (HTV.out.nm.each _ (by rw [← HPS.out]; exact List.getElem_mem hlt)).k32
      have HPL := Lib.hid (Pe.len hp32)
      have x33 := (pe_cells hra hp32).2.2.1
      obtain ⟨ex, hex⟩ : ∃ x, x = p.ex := ⟨_, rfl⟩
      rw [← hex] at x33
      have HEX := Lib.hid hex
      have HST := Lib.hid (cntP_take (tick := tick) hlt)
      have hs0 := HB.out.size
      clear hp hra hp32 hex hrp hgp
      by_cases hq : tick < ex
      · have hq' : decide (tick < ex) = true := decide_eq_true hq
        go_wp2_with fail
        go_quiet (fail)
        obtain ⟨n1, rfl⟩ : ∃ n1, n1 = nq := ⟨_, rfl⟩
        have HOD := Lib.hid (own_mod (w' := wv.drewN n1) HO.out ((Mod.refl (fun _ => False) wv).drewN n1) (fun _ _ h => h) (Nat.le_refl _))
        go_wp2_with (first | (refine step_load big_peer (by first | rfl | simp [Region.wanted, yielded]) (.tmp 36) rfl gp (op + k * 36) rfl p.L HPL.out HRA.out ?_) | (refine step_rows (t := 32) Try.underlying32 size_peer _ zero_peer (by omega) (by omega) (by first | rfl | simp [Region.wanted, yielded]) _ rfl [p.L] rfl (by intro x hx; rw [List.mem_singleton] at hx; rw [hx]; exact HPL.out) rfl p.L (by simp) ?_) | (at_builtin; refine wpList_append_rd _ rfl (.tmp 29) (.tmp 38) _ rfl W.heap.size 43 i0 _ 36 96 Try.underlying32 hi0 hz0 hz1 hz2 zPe_len (by omega) (.slice B nn c) nn (rowP (cntP tick (ps.take k))) rfl (own_below HOD.out (Ba (B0 _) _)) (fun j => j = (wv.drewN n1).heap.size) (.slice (some ⟨(wv.drewN n1).heap.size, 0, none⟩) 1 1) 1 p.L rfl (Rd.box (wv.drewN n1) 43 p.L 36 HPL.out) p.one (by simp only [maxLen]; omega) (by omega) (by simp; omega) ?_; intro v4 w4 HA; obtain ⟨A4, c4, rfl⟩ := own_slice HA.own) | fail)
        go_roundw
        case rel =>
          have e : cntP tick (ps.take (k + 1)) = cntP tick (ps.take k) ++ [p] := by rw [HST.out, ← HP.out, if_pos (by rw [← HEX.out]; exact hq)]
          have el : (cntP tick (ps.take (k + 1))).length = nn + 1 := by rw [e, List.length_append, ← HNN.out]; rfl
          refine ⟨k + 1, A4, c4, by omega, by go_num, by rw [el], ?_, ?_⟩
          · rw [el, e, rowP_snoc]
            exact HA.own
          · have hm : Mod (fun i => (Value.slice B nn c).ownBlock = some i) ((wv.drewN n1).alloc (.cells p.L.toArray 43)) w4 := (Mod.refl _ _).grown HA.grown (fun i hi => .inl hi)
            exact Bm (Ba (BdN HB.out _) _) hm (fun i hi => own_ge HO.out i hi)
        case measure => simp [intOf]; omega
      · have hq' : decide (tick < ex) = false := decide_eq_false hq
        go_wp2_with fail
        go_quiet (fail)
        go_wp2_with fail
        go_roundw
        case rel =>
          have e : cntP tick (ps.take (k + 1)) = cntP tick (ps.take k) := by rw [HST.out, ← HP.out, if_neg (by rw [← HEX.out]; omega), List.append_nil]
          refine ⟨k + 1, B, c, by omega, by go_num, by rw [e, ← HNN.out], ?_, BdN HB.out _⟩
          rw [e, ← HNN.out]
          exact own_mod HO.out ((Mod.refl (fun _ => False) wv).drewN _) (fun _ _ h => h) (Nat.le_refl _)
        case measure => simp [intOf]; omega
    · obtain rfl : k = ps.length := by omega
      go_wp2_with fail
      go_ret
      have e : cntP tick (ps.take ps.length) = cntP tick ps := by rw [List.take_of_length_le (Nat.le_refl _)]
      refine ⟨B, c, by rw [HNN.out, e]; rfl, ?_, HB.out⟩
      have := HO.out
      rw [HNN.out, e] at this
      exact this
set_option maxHeartbeats 2000000 in
theorem rwithin_any (S : Nat → Prop) (A : Option Addr) (c : Nat) (l : List Sp) (port : Int) (w : World) (hr : Rd w S 2 (.slice A l.length c) l.length (rowS l)) :
    Calls Try.prog 55 #[.slice A l.length c, .int .i64 port] w fun e w' => e = .returned (.bool (wiB l port)) ∧ ∃ n, w' = w.drewN n := by
  have hcap := hr.cap.2
  have hc1 := hcap.1
  have hc2 := hcap.2
  unfold maxLen at hc2
  have HR := Lib.hid hr
  clear hr hcap
  go_enter Try.func55, Try.ntmps55
  go_wp2_with fail
  go_loopw [5] (fun i wr => ∃ k : Nat, k ≤ l.length ∧ i = .int .i64 k ∧ wiB l port = wiB (l.drop k) port ∧ ∃ n, wr = w.drewN n) (fun i _ => l.length - (intOf i).toNat)
  case atStart => exact ⟨0, Nat.zero_le _, rfl, by simp, 0, rfl⟩
  case round =>
    obtain ⟨k, hk, rfl, he, n, rfl⟩ := hrel
    have HE := Lib.hid he
    clear he
    by_cases hlt : k < l.length
    · have hlt' : (k : Int) < (l.length : Int) := by omega
      have hk0 : (0 : Int) ≤ (k : Int) := by omega
      obtain ⟨gs, o, hA, _, c0, c1⟩ := span_at HR.out hlt
      subst hA
      obtain ⟨lo, hlo⟩ : ∃ x, x = (l[k]).lo := ⟨_, rfl⟩
      obtain ⟨hi, hhi⟩ : ∃ x, x = (l[k]).hi := ⟨_, rfl⟩
      rw [← hlo] at c0
      rw [← hhi] at c1
      have HNX : Hid (wiB (l.drop k) port = ((decide (lo ≤ port) && decide (port ≤ hi)) || wiB (l.drop (k + 1)) port)) := Lib.hid (by rw [List.drop_eq_getElem_cons hlt, hlo, hhi]; rfl)
      clear hlo hhi
      by_cases q1 : lo ≤ port
      · by_cases q2 : port ≤ hi
        · have q1' : decide (lo ≤ port) = true := decide_eq_true q1
          have q2' : decide (port ≤ hi) = true := decide_eq_true q2
          go_wp2_with fail
          go_ret
          exact ⟨ret_bool (by rw [HE.out, HNX.out, decide_eq_true q1, decide_eq_true q2]; rfl), n, rfl⟩
        · have q1' : decide (lo ≤ port) = true := decide_eq_true q1
          have q2' : decide (port ≤ hi) = false := decide_eq_false q2
          go_wp2_with fail
          go_roundw
          case rel => exact ⟨k + 1, by omega, by go_num, by rw [HE.out, HNX.out, decide_eq_false (p := port ≤ hi) (by omega)]; simp, n, rfl⟩
          case measure => simp [intOf]; omega
      · have q1' : decide (lo ≤ port) = false := decide_eq_false q1
        go_wp2_with fail
        go_roundw
        case rel => exact ⟨k + 1, by omega, by go_num, by rw [HE.out, HNX.out, decide_eq_false (p := lo ≤ port) (by omega)]; simp, n, rfl⟩
        case measure => simp [intOf]; omega
    · obtain rfl : k = l.length := by omega
      go_wp2_with fail
      go_ret
      exact ⟨ret_bool (by rw [HE.out, List.drop_of_length_le (Nat.le_refl _)]; rfl), n, rfl⟩
end Go.Proofs.Ytgmndppjdnpejaa
