/- A table of a netmap. -/
import Derived.Test.YtgmndppjdnpejaaB18
namespace Go.Proofs.Ytgmndppjdnpejaa
open Go.RowKit
set_option maxRecDepth 20000
set_option linter.unusedVariables false
set_option linter.unusedSimpArgs false

/-- What table answers: a table of a netmap that may be, or none. -/
def TableDid (m : Nm) (W : World) (e : Ending) (w' : World) : Prop :=
  (nmB m = false ∧ e = .returned (.pointer none) ∧ Below W.heap.size W w') ∨
  (nmB m = true ∧ ∃ g S qs, e = .returned (.pointer (some ⟨g, 0, none⟩)) ∧ TbAt w' S g m.node 0 m.ver qs ∧ qs.map Pe.px = m.ps.map Pe.px ∧ Below W.heap.size W w' ∧ ∀ i, S i → W.heap.size ≤ i)
theorem nmB_node {m : Nm} (h : ndB m.node = false) : nmB m = false := by
  unfold nmB mayB
  rw [show ndB m.hd.node = false from h]
  simp
set_option maxHeartbeats 1000000 in
theorem table_any (S : Nat → Prop) (m : Nm) (W : World) (hm : NmAt W S m) (hS : ∀ i, S i → i < W.heap.size) :
    Calls Try.prog 20 #[m.v] W (TableDid m W) := by
  obtain ⟨w1, hw1⟩ : ∃ u, u = W.alloc (.cells m.L.toArray 34) := ⟨_, rfl⟩
  have hb1 : Below W.heap.size W w1 := by rw [hw1]; exact Ba (B0 W) _
  have HG := Lib.hid (show Blk w1 W.heap.size 34 m.L.toArray by rw [hw1]; exact Blk.new _ _ _)
  have HB1 := Lib.hid hb1
  have HW1 := Lib.hid hw1
  have HM := Lib.hid (hm.below hb1 hS)
  have HS := Lib.hid hS
  have HML := Lib.hid (Nm.len hm.k32)
  have HMK := Lib.hid hm.k32
  obtain ⟨mn, hmn⟩ : ∃ x, x = m.node := ⟨_, rfl⟩
  have HMN := Lib.hid hmn
  have hlW := HG.out.lt
  clear hm hS hb1 hw1 hmn
  cases hnd : ndB mn
  · have HND := Lib.hid hnd
    have HNO := Lib.hid (nmB_node (m := m) (by rw [← HMN.out]; exact hnd))
    clear hnd
    go_enter Try.func20, Try.ntmps20
    go_upto_region 1 with fail
    change Code.wp _ _ _ _ (W.alloc (.cells m.L.toArray 34))
    rw [← HW1.out]
    have x2 := (nm_cells (blk_range HG.out) HMK.out).2.2.1
    rw [Nat.zero_add, ← HMN.out] at x2
    go_wp2_with fail
    refine (new_bad mn w1 HND.out).mono ?_
    rintro e w' ⟨rfl, rfl⟩
    go_wp2_with fail
    go_ret
    exact .inl ⟨HNO.out, rfl, HB1.out⟩
  · have HND := Lib.hid hnd
    have HN1 := Lib.hid (ndB_le hnd).1
    clear hnd
    go_enter Try.func20, Try.ntmps20
    go_upto_region 1 with fail
    change Code.wp _ _ _ _ (W.alloc (.cells m.L.toArray 34))
    rw [← HW1.out]
    have x2 := (nm_cells (blk_range HG.out) HMK.out).2.2.1
    rw [Nat.zero_add, ← HMN.out] at x2
    go_wp2_with fail
    refine (new_ok mn w1 HND.out).mono ?_
    rintro e w2 ⟨g, rfl, ht, hgW, hb2⟩
    have HT := Lib.hid ht
    have HGW := Lib.hid hgW
    have HB2 := Lib.hid (Bt HB1.out hb2)
    have HG2 := Lib.hid (HG.out.later hb2)
    have HM2 := Lib.hid (HM.out.below hb2 (fun i hi => by have := HS.out i hi; omega))
    have hsz := HB1.out.size
    clear ht hb2 hgW x2
    go_wp2_with (first | (refine step_load big_map (by first | rfl | simp [Region.wanted, yielded]) (.tmp 1) rfl W.heap.size 0 rfl m.L HML.out (blk_range HG2.out) ?_) | fail)
    cases hmb : nmB m
    · have hE : setE m mn 0 ≠ 0 := by unfold setE; rw [if_pos hmb]; omega
      have HE := Lib.hid (show setE m mn 0 = 2 from if_pos hmb)
      have HMB := Lib.hid hmb
      refine (set_no S _ m g mn 0 0 [] w2 HM2.out (fun i hi => Nat.lt_of_lt_of_le (HS.out i hi) HB2.out.size) HT.out HN1.out hE).mono ?_
      rw [HE.out]
      rintro e w3 ⟨rfl, hb3⟩
      have HB3 := Lib.hid (Bt HB2.out hb3)
      clear hb3 hE hmb
      go_wp2_with fail
      go_ret
      exact .inl ⟨HMB.out, rfl, HB3.out⟩
    · have HMB := Lib.hid hmb
      have HV := Lib.hid (nm_ok hmb).ver.1
      refine (set_ok S _ m g mn 0 0 [] w2 HM2.out (fun i hi => ⟨Nat.lt_of_lt_of_le (HS.out i hi) HB2.out.size, by have := HS.out i hi; have := HGW.out; omega⟩) HT.out HN1.out hmb HMN.out.symm HV.out).mono ?_
      rintro e w3 ⟨qs, rfl, ht, hpx, hm3⟩
      have HT3 := Lib.hid ht
      have HPX := Lib.hid hpx
      have HB3 := Lib.hid (Bm HB2.out hm3 (fun i hi => by subst hi; have := HGW.out; omega))
      clear ht hpx hm3 hmb
      go_wp2_with fail
      go_ret
      refine .inr ⟨HMB.out, g, _, qs, rfl, by rw [← HMN.out]; exact HT3.out, HPX.out, HB3.out, fun i hi => ?_⟩
      rcases hi with rfl | hi
      · have := HGW.out; omega
      · have := hi.1; have := HB2.out.size; omega
theorem mem_px {qs ps : List Pe} (h : qs.map Pe.px = ps.map Pe.px) {q : Pe} (hq : q ∈ qs) : ∃ p ∈ ps, q.px = p.px := by
  have : q.px ∈ ps.map Pe.px := by rw [← h]; exact List.mem_map_of_mem hq
  obtain ⟨p, hp, e⟩ := List.mem_map.1 this
  exact ⟨p, hp, e.symm⟩
theorem lkN_none {ps : List Pe} {n : Int} (h : ∀ p ∈ ps, p.nd ≠ n) : lkN ps n = none := by
  unfold lkN
  rw [List.find?_eq_none]
  intro p hp
  have := h p (by simpa using hp)
  simpa using this
theorem pkN_none {ps : List Pe} {tick n : Int} (h : ∀ p ∈ ps, p.nd ≠ n) : pkN tick ps n = none := by
  unfold pkN
  rw [lkN_none h]
  rfl
end Go.Proofs.Ytgmndppjdnpejaa
