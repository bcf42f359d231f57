/- A table is not set. -/
import Derived.Test.YtgmndppjdnpejaaB14
namespace Go.Proofs.Ytgmndppjdnpejaa
open Go.RowKit
set_option maxRecDepth 20000
set_option linter.unusedVariables false
set_option linter.unusedSimpArgs false

def setE (m : Nm) (node ver : Int) : Int := if nmB m = false then 2 else if m.node ≠ node then 220 else if m.ver < ver then 201 else 0
set_option maxHeartbeats 2000000 in
theorem set_bad (Sm S : Nat → Prop) (m : Nm) (g : Nat) (node tick ver : Int) (ps0 : List Pe) (W : World) (hm : NmAt W Sm m) (hSm : ∀ i, Sm i → i < W.heap.size) (h : TbAt W S g node tick ver ps0) (hn : 1 ≤ node) (h1 : nmB m = false) :
    Calls Try.prog 13 #[.pointer (some ⟨g, 0, none⟩), m.v] W fun e w' => e = .returned (.int .i64 2) ∧ Below W.heap.size W w' := by
  obtain ⟨w1, hw1⟩ : ∃ u, u = W.alloc (.cells m.L.toArray 34) := ⟨_, rfl⟩
  have hb1 : Below W.heap.size W w1 := by rw [hw1]; exact Ba (B0 W) _
  obtain ⟨mk, mn, htb, _⟩ := (h.below hb1).maps
  have HT := Lib.hid htb
  have HM := Lib.hid (hm.below hb1 hSm)
  have HSM := Lib.hid hSm
  have HG := Lib.hid (show Blk w1 W.heap.size 34 m.L.toArray by rw [hw1]; exact Blk.new _ _ _)
  have HB1 := Lib.hid hb1
  have HW1 := Lib.hid hw1
  have HML := Lib.hid (Nm.len hm.k32)
  have HMK := Lib.hid hm.k32
  have hgW : g < W.heap.size := by obtain ⟨t1, t2, _⟩ := h; exact t2 _ t1
  obtain ⟨mnode, hmn⟩ : ∃ x, x = m.node := ⟨_, rfl⟩
  obtain ⟨mver, hmv⟩ : ∃ x, x = m.ver := ⟨_, rfl⟩
  have HMN := Lib.hid hmn
  have HMV := Lib.hid hmv
  have HCE := Lib.hid (chkE_bad h1)
  have lW := HG.out.lt
  clear h hm hSm hb1 hw1 htb hmn hmv
  go_enter Try.func13, Try.ntmps13
  go_upto_region 1 with fail
  change Code.wp _ _ _ _ (W.alloc (.cells m.L.toArray 34))
  rw [← HW1.out]
  go_wp2_with (first | (go_at_call 33; refine (none_any g node tick ver mk mn _ HT.out hn).mono ?_; rintro e w' ⟨rfl, rfl⟩) | (refine step_load big_map rfl (.tmp 3) rfl W.heap.size 0 rfl m.L HML.out (blk_range HG.out) ?_) | fail)
  refine (check_any Sm m w1 HM.out (fun i hi => Nat.lt_of_lt_of_le (HSM.out i hi) HB1.out.size)).mono ?_
  rw [HCE.out]
  rintro e w2 ⟨rfl, hb2⟩
  have HB2 := Lib.hid (Bt HB1.out hb2)
  clear hb2
  go_wp2_with fail
  go_ret
  exact ⟨rfl, HB2.out⟩
set_option maxHeartbeats 2000000 in
theorem set_node (Sm S : Nat → Prop) (m : Nm) (g : Nat) (node tick ver : Int) (ps0 : List Pe) (W : World) (hm : NmAt W Sm m) (hSm : ∀ i, Sm i → i < W.heap.size) (h : TbAt W S g node tick ver ps0) (hn : 1 ≤ node) (h1 : nmB m = true) (h2 : m.node ≠ node) :
    Calls Try.prog 13 #[.pointer (some ⟨g, 0, none⟩), m.v] W fun e w' => e = .returned (.int .i64 220) ∧ Below W.heap.size W w' := by
  obtain ⟨w1, hw1⟩ : ∃ u, u = W.alloc (.cells m.L.toArray 34) := ⟨_, rfl⟩
  have hb1 : Below W.heap.size W w1 := by rw [hw1]; exact Ba (B0 W) _
  obtain ⟨mk, mn, htb, _⟩ := (h.below hb1).maps
  have HT := Lib.hid htb
  have HM := Lib.hid (hm.below hb1 hSm)
  have HSM := Lib.hid hSm
  have HG := Lib.hid (show Blk w1 W.heap.size 34 m.L.toArray by rw [hw1]; exact Blk.new _ _ _)
  have HB1 := Lib.hid hb1
  have HW1 := Lib.hid hw1
  have HML := Lib.hid (Nm.len hm.k32)
  have HMK := Lib.hid hm.k32
  have hgW : g < W.heap.size := by obtain ⟨t1, t2, _⟩ := h; exact t2 _ t1
  obtain ⟨mnode, hmn⟩ : ∃ x, x = m.node := ⟨_, rfl⟩
  obtain ⟨mver, hmv⟩ : ∃ x, x = m.ver := ⟨_, rfl⟩
  have HMN := Lib.hid hmn
  have HMV := Lib.hid hmv
  have HCE := Lib.hid (chkE_ok h1)
  have hq2 : (mnode != node) = true := by rw [hmn]; simpa using h2
  clear h2
  have lW := HG.out.lt
  clear h hm hSm hb1 hw1 htb hmn hmv
  go_enter Try.func13, Try.ntmps13
  go_upto_region 1 with fail
  change Code.wp _ _ _ _ (W.alloc (.cells m.L.toArray 34))
  rw [← HW1.out]
  go_wp2_with (first | (go_at_call 33; refine (none_any g node tick ver mk mn _ HT.out hn).mono ?_; rintro e w' ⟨rfl, rfl⟩) | (refine step_load big_map rfl (.tmp 3) rfl W.heap.size 0 rfl m.L HML.out (blk_range HG.out) ?_) | fail)
  refine (check_any Sm m w1 HM.out (fun i hi => Nat.lt_of_lt_of_le (HSM.out i hi) HB1.out.size)).mono ?_
  rw [HCE.out]
  rintro e w2 ⟨rfl, hb2⟩
  have HB2 := Lib.hid (Bt HB1.out hb2)
  have HG2 := Lib.hid (HG.out.later hb2)
  have HT2 := Lib.hid (HT.out.later hb2)
  obtain ⟨x0, _, x2, _, _, _⟩ := nm_cells (blk_range HG2.out) HMK.out
  simp only [Nat.zero_add] at x0 x2
  rw [← HMV.out] at x0
  rw [← HMN.out] at x2
  have y0 : w2.cell? ⟨g, 0, none⟩ = some (.int .i64 node) := HT2.out.cell 0
  have y2 : w2.cell? ⟨g, 2, none⟩ = some (.int .i64 ver) := HT2.out.cell 2
  have lg := HT2.out.lt
  have lm := HG2.out.lt
  clear hb2
  go_wp2_with fail
  go_quiet (fail)
  go_wp2_with fail
  go_ret
  exact ⟨rfl, BdN HB2.out _⟩
set_option maxHeartbeats 2000000 in
theorem set_old (Sm S : Nat → Prop) (m : Nm) (g : Nat) (node tick ver : Int) (ps0 : List Pe) (W : World) (hm : NmAt W Sm m) (hSm : ∀ i, Sm i → i < W.heap.size) (h : TbAt W S g node tick ver ps0) (hn : 1 ≤ node) (h1 : nmB m = true) (h2 : m.node = node) (h3 : m.ver < ver) :
    Calls Try.prog 13 #[.pointer (some ⟨g, 0, none⟩), m.v] W fun e w' => e = .returned (.int .i64 201) ∧ Below W.heap.size W w' := by
  obtain ⟨w1, hw1⟩ : ∃ u, u = W.alloc (.cells m.L.toArray 34) := ⟨_, rfl⟩
  have hb1 : Below W.heap.size W w1 := by rw [hw1]; exact Ba (B0 W) _
  obtain ⟨mk, mn, htb, _⟩ := (h.below hb1).maps
  have HT := Lib.hid htb
  have HM := Lib.hid (hm.below hb1 hSm)
  have HSM := Lib.hid hSm
  have HG := Lib.hid (show Blk w1 W.heap.size 34 m.L.toArray by rw [hw1]; exact Blk.new _ _ _)
  have HB1 := Lib.hid hb1
  have HW1 := Lib.hid hw1
  have HML := Lib.hid (Nm.len hm.k32)
  have HMK := Lib.hid hm.k32
  have hgW : g < W.heap.size := by obtain ⟨t1, t2, _⟩ := h; exact t2 _ t1
  obtain ⟨mnode, hmn⟩ : ∃ x, x = m.node := ⟨_, rfl⟩
  obtain ⟨mver, hmv⟩ : ∃ x, x = m.ver := ⟨_, rfl⟩
  have HMN := Lib.hid hmn
  have HMV := Lib.hid hmv
  have HCE := Lib.hid (chkE_ok h1)
  have hq2 : (mnode != node) = false := by rw [hmn, h2]; simp
  have hq3 : mver < ver := by rw [hmv]; exact h3
  have hq3' : decide (mver < ver) = true := decide_eq_true hq3
  have HH2 := Lib.hid h2
  clear h2
  have lW := HG.out.lt
  clear h hm hSm hb1 hw1 htb hmn hmv
  go_enter Try.func13, Try.ntmps13
  go_upto_region 1 with fail
  change Code.wp _ _ _ _ (W.alloc (.cells m.L.toArray 34))
  rw [← HW1.out]
  go_wp2_with (first | (go_at_call 33; refine (none_any g node tick ver mk mn _ HT.out hn).mono ?_; rintro e w' ⟨rfl, rfl⟩) | (refine step_load big_map rfl (.tmp 3) rfl W.heap.size 0 rfl m.L HML.out (blk_range HG.out) ?_) | fail)
  refine (check_any Sm m w1 HM.out (fun i hi => Nat.lt_of_lt_of_le (HSM.out i hi) HB1.out.size)).mono ?_
  rw [HCE.out]
  rintro e w2 ⟨rfl, hb2⟩
  have HB2 := Lib.hid (Bt HB1.out hb2)
  have HG2 := Lib.hid (HG.out.later hb2)
  have HT2 := Lib.hid (HT.out.later hb2)
  obtain ⟨x0, _, x2, _, _, _⟩ := nm_cells (blk_range HG2.out) HMK.out
  simp only [Nat.zero_add] at x0 x2
  rw [← HMV.out] at x0
  rw [← HMN.out] at x2
  have y0 : w2.cell? ⟨g, 0, none⟩ = some (.int .i64 node) := HT2.out.cell 0
  have y2 : w2.cell? ⟨g, 2, none⟩ = some (.int .i64 ver) := HT2.out.cell 2
  have lg := HT2.out.lt
  have lm := HG2.out.lt
  clear hb2
  go_wp2_with fail
  go_quiet (fail)
  obtain ⟨na, hna⟩ : ∃ n, n = nq := ⟨_, rfl⟩
  rw [← hna]
  clear hna
  go_wp2_with fail
  go_quiet (fail)
  go_wp2_with fail
  go_ret
  exact ⟨rfl, by first | exact BdN (BdN HB2.out _) _ | exact BdN HB2.out _⟩
theorem setE_zero {m : Nm} {node ver : Int} (h : setE m node ver = 0) : nmB m = true ∧ m.node = node ∧ ver ≤ m.ver := by
  unfold setE at h
  by_cases h1 : nmB m = false
  · rw [if_pos h1] at h; omega
  · rw [if_neg h1] at h
    by_cases h2 : m.node ≠ node
    · rw [if_pos h2] at h; omega
    · rw [if_neg h2] at h
      by_cases h3 : m.ver < ver
      · rw [if_pos h3] at h; omega
      · exact ⟨by simpa using h1, by omega, by omega⟩
theorem set_no (Sm S : Nat → Prop) (m : Nm) (g : Nat) (node tick ver : Int) (ps0 : List Pe) (W : World) (hm : NmAt W Sm m) (hSm : ∀ i, Sm i → i < W.heap.size) (h : TbAt W S g node tick ver ps0) (hn : 1 ≤ node) (hE : setE m node ver ≠ 0) :
    Calls Try.prog 13 #[.pointer (some ⟨g, 0, none⟩), m.v] W fun e w' => e = .returned (.int .i64 (setE m node ver)) ∧ Below W.heap.size W w' := by
  by_cases h1 : nmB m = false
  · have e : setE m node ver = 2 := if_pos h1
    rw [e]
    exact set_bad Sm S m g node tick ver ps0 W hm hSm h hn h1
  · have h1' : nmB m = true := by simpa using h1
    by_cases h2 : m.node ≠ node
    · have e : setE m node ver = 220 := by unfold setE; rw [if_neg h1, if_pos h2]
      rw [e]
      exact set_node Sm S m g node tick ver ps0 W hm hSm h hn h1' h2
    · by_cases h3 : m.ver < ver
      · have e : setE m node ver = 201 := by unfold setE; rw [if_neg h1, if_neg h2, if_pos h3]
        rw [e]
        exact set_old Sm S m g node tick ver ps0 W hm hSm h hn h1' (by simpa using h2) h3
      · exact absurd (by unfold setE; rw [if_neg h1, if_neg h2, if_neg h3]) hE
end Go.Proofs.Ytgmndppjdnpejaa
