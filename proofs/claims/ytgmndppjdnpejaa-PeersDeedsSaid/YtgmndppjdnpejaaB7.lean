/- Check; spans cloned. -/
import Derived.Test.YtgmndppjdnpejaaB6
import Derived.Lib.SmallJoins
namespace Go.Proofs.Ytgmndppjdnpejaa
open Go.RowKit
set_option maxRecDepth 20000
set_option linter.unusedVariables false
set_option linter.unusedSimpArgs false

def Nm.hd (m : Nm) : Hd := ⟨m.clock, m.node, m.ks, m.ex⟩
def nmB (m : Nm) : Bool := nuB m.ver && mayB m.hd m.ps
def chkE (m : Nm) : Int := if nmB m = true then 0 else 2
theorem chkE_ok {m : Nm} (h : nmB m = true) : chkE m = 0 := if_pos h
theorem chkE_bad {m : Nm} (h : nmB m = false) : chkE m = 2 := if_neg (by simp [h])
set_option maxHeartbeats 2000000 in
theorem check_any (S : Nat → Prop) (m : Nm) (w : World) (hm : NmAt w S m) (hS : ∀ i, S i → i < w.heap.size) :
    Calls Try.prog 21 #[m.v] w fun e w' => e = .returned (.int .i64 (chkE m)) ∧ Below w.heap.size w w' := by
  have HK := Lib.hid hm.k32
  have HM := Lib.hid hm
  have HS := Lib.hid hS
  have HLK := Lib.hid (show (bts m.ks).length = 32 by rw [bts_length]; exact hm.k32)
  obtain ⟨w0, hw0⟩ : ∃ u, u = w.alloc (.cells m.L.toArray 34) := ⟨_, rfl⟩
  have HG := Lib.hid (show Blk w0 w.heap.size 34 m.L.toArray by rw [hw0]; exact Blk.new _ _ _)
  have HB := Lib.hid (show Below w.heap.size w w0 by rw [hw0]; exact Ba (B0 w) _)
  have HW0 := Lib.hid hw0
  clear hm hS hw0
  cases n1 : nuB m.ver
  · have HN1 := Lib.hid n1
    clear n1
    go_enter Try.func21, Try.ntmps21
    go_upto_region 1 with fail
    rw [← HW0.out]
    obtain ⟨x0, x1, x2, x3, x35, x36⟩ := nm_cells (blk_range HG.out) HK.out
    simp only [Nat.zero_add] at x0 x1 x2 x3 x35 x36
    have lg := HG.out.lt
    go_wp2_with (go_at_call 43; refine (number_is HN1.out _).mono ?_; rintro e w' ⟨rfl, rfl⟩)
    go_ret
    exact ⟨ret_int (chkE_bad (by unfold nmB; rw [HN1.out]; rfl)).symm, HB.out⟩
  · have HN1 := Lib.hid n1
    clear n1
    have HNM : Hid (nmB m = mayB m.hd m.ps) := Lib.hid (by unfold nmB; rw [HN1.out]; rfl)
    go_enter Try.func21, Try.ntmps21
    go_upto_region 1 with fail
    rw [← HW0.out]
    obtain ⟨x0, x1, x2, x3, x35, x36⟩ := nm_cells (blk_range HG.out) HK.out
    simp only [Nat.zero_add] at x0 x1 x2 x3 x35 x36
    have HX3 := Lib.hid x3
    have lg := HG.out.lt
    clear x3
    go_wp2_with (first | (go_at_call 43; refine (number_is HN1.out _).mono ?_; rintro e w' ⟨rfl, rfl⟩) | (refine step_load big_key (by first | rfl | simp [Region.wanted, yielded]) (.tmp 12) rfl w.heap.size 3 rfl (bts m.ks) HLK.out HX3.out ?_) | (refine step_build (by first | rfl | simp [Region.wanted, yielded]) _ rfl [(0, .int .i64 m.clock), (1, .int .i64 m.node), (2, .agg (bts m.ks).toArray), (3, .int .i64 m.ex)] rfl m.hd.L.toArray (build_head m.hd HK.out _) ?_) | fail)
    refine (may_any S m.hd m.PA m.pc m.ps w0 HK.out (HM.out.rp.below HB.out HS.out) (fun p hp => (HM.out.each p hp).below HB.out HS.out) (fun i hi => Nat.lt_of_lt_of_le (HS.out i hi) HB.out.size)).mono ?_
    obtain ⟨b, hb⟩ : ∃ b, b = mayB m.hd m.ps := ⟨_, rfl⟩
    rw [← hb]
    have HBQ := Lib.hid hb
    rintro e w1 ⟨rfl, hbe⟩
    have HBE := Lib.hid (Bt HB.out hbe)
    clear hb hbe x0 x1 x2 x35 x36 lg
    cases b
    · go_wp2_with fail
      go_ret
      exact ⟨ret_int (chkE_bad (by rw [HNM.out, ← HBQ.out])).symm, HBE.out⟩
    · go_wp2_with fail
      go_ret
      exact ⟨ret_int (chkE_ok (by rw [HNM.out, ← HBQ.out])).symm, HBE.out⟩
theorem infoS : (Try.prog.info? 45).map (fun i => (i.zero, i.size, i.bytes)) = some (some (.agg #[.int .i64 0, .int .i64 0]), 2, 16) := by kernel_rfl
theorem rowS_one (l : List Sp) : ∀ u ∈ rowS l, u.oneCell' = true := by
  intro u hu
  obtain ⟨s, _, hs⟩ := List.mem_flatMap.1 hu
  simp only [Sp.L, List.mem_cons, List.not_mem_nil, or_false] at hs
  rcases hs with rfl | rfl <;> rfl
/-- slices.Clone of spans: in memory of its own. -/
theorem clone_any (S : Nat → Prop) (A : Option Addr) (c : Nat) (l : List Sp) (w : World) (hr : Rd w S 2 (.slice A l.length c) l.length (rowS l)) (hS : ∀ i, S i → i < w.heap.size) (hl : l.length ≤ 33) :
    Calls Try.prog 34 #[.slice A l.length c] w fun e w' => ∃ A' c', e = .returned (.slice A' l.length c') ∧ w'.ownsRow w.heap.size 45 2 (.slice A' l.length c') l.length (rowS l) ∧ Below w.heap.size w w' := by
  obtain ⟨i0, hi0, hz0, hz1, hz2⟩ := info_parts infoS
  have hnil := fun (a : Option Addr) (n c : Nat) (w : World) => Lib.run_eql_slice_nil (P := Try.prog) w 41 45 a n c 0 0 Try.underlying41
  rcases A with _ | a
  · have h0 : l.length = 0 := by
      rcases Nat.eq_zero_or_pos l.length with h0 | h0
      · exact h0
      · obtain ⟨g, o, he, _⟩ := hr.some_ h0; cases he
    obtain rfl : l = [] := List.eq_nil_of_length_eq_zero h0
    clear hr hl h0
    go_enter Try.func34, Try.ntmps34
    go_wp2
    go_ret
    exact ⟨none, 0, rfl, World.ownsRow_nil _ _ _ _, Below.refl _ _⟩
  · have HR := Lib.hid hr
    clear hr
    have HO := Lib.hid (show (w.alloc (.cells #[] 45)).ownsRow w.heap.size 45 2 (.slice (some ⟨w.heap.size, 0, none⟩) 0 0) 0 [] from own_rows (cs := []) rfl (by unfold maxLen; omega) _ (Nat.le_refl _))
    go_enter Try.func34, Try.ntmps34
    go_wp2_with (at_builtin; refine wpList_append_rd _ rfl (.tmp 5) (.tmp 6) _ rfl w.heap.size 45 i0 _ 2 16 Try.underlying41 hi0 hz0 hz1 hz2 rfl (by omega) (.slice (some ⟨w.heap.size, 0, none⟩) 0 0) 0 [] rfl HO.out S (.slice (some a) l.length c) l.length (rowS l) rfl (HR.out.below (Ba (B0 w) _) hS) (rowS_one l) (by simp only [maxLen]; omega) (by omega) (by simp) ?_; intro v1 w1 HA)
    go_ret
    obtain ⟨A', c', rfl⟩ := own_slice HA.own
    simp only [Nat.zero_add, List.nil_append] at HA
    exact ⟨A', c', by simp, HA.own, (Ba (B0 w) (.cells #[] 45)).grown HA.grown (by simp) (by simp [Value.ownBlock])⟩
end Go.Proofs.Ytgmndppjdnpejaa
