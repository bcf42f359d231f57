/- The document's table: Set. -/
import Derived.Test.YtgmndppjdnpejaaR7
namespace Go.Proofs.Ytgmndppjdnpejaa
open Go.RowKit
set_option maxRecDepth 20000
set_option linter.unusedVariables false
set_option linter.unusedSimpArgs false

theorem rcheck_is {m : Nm} {E : Int} (h : chkE m = E) (S : Nat → Prop) (W : World) (hm : NmAt W S m) (hS : ∀ i, S i → i < W.heap.size) :
    Calls Try.prog 35 #[m.v] W fun e w' => e = .returned (.int .i64 E) ∧ Below W.heap.size W w' := h ▸ rcheck_any S m W hm hS
set_option maxHeartbeats 4000000 in
theorem rset_no (Sm S : Nat → Prop) (m : Nm) (g : Nat) (node tick : Int) (has : Bool) (m0 : Nm) (W : World) (hm : NmAt W Sm m) (hSm : ∀ i, Sm i → i < W.heap.size) (h : RtAt W S g node has m0 tick) (hl : has = false → m0.ver = 0) (hE : setE m node m0.ver ≠ 0) :
    Calls Try.prog 14 #[.pointer (some ⟨g, 0, none⟩), m.v] W fun e w' => e = .returned (.int .i64 (setE m node m0.ver)) ∧ Below W.heap.size W w' := by
  obtain ⟨w1, hw1⟩ : ∃ u, u = W.alloc (.cells m.L.toArray 34) := ⟨_, rfl⟩
  have hb1 : Below W.heap.size W w1 := by rw [hw1]; exact Ba (B0 W) _
  have HG := Lib.hid (show Blk w1 W.heap.size 34 m.L.toArray by rw [hw1]; exact Blk.new _ _ _)
  have HB1 := Lib.hid hb1
  have HW1 := Lib.hid hw1
  have HM := Lib.hid (hm.below hb1 hSm)
  have HS := Lib.hid (show ∀ i, Sm i → i < w1.heap.size from fun i hi => Nat.lt_of_lt_of_le (hSm i hi) hb1.size)
  have HMK := Lib.hid hm.k32
  have HML := Lib.hid (Nm.len hm.k32)
  have HT := Lib.hid (h.below hb1)
  have HE := Lib.hid hE
  have HL := Lib.hid hl
  clear hm hSm hb1 hw1 h hE hl
  go_enter Try.func14, Try.ntmps14
  go_upto_region 1 with fail
  change Code.wp _ _ _ _ (W.alloc (.cells m.L.toArray 34))
  rw [← HW1.out]
  go_wp2_with (first | (refine step_load big_map (by first | rfl | simp [Region.wanted, yielded]) (.tmp 3) rfl W.heap.size 0 rfl m.L HML.out (blk_range HG.out) ?_) | fail)
  cases hmb : nmB m
  · have HX := Lib.hid (show setE m node m0.ver = 2 from if_pos hmb)
    refine (rcheck_is (chkE_bad hmb) Sm w1 HM.out HS.out).mono ?_
    rintro e w2 ⟨rfl, hb2⟩
    have HB2 := Lib.hid (Bt HB1.out hb2)
    clear hb2 hmb
    go_wp2_with fail
    go_ret
    exact ⟨ret_int HX.out.symm, HB2.out⟩
  · have HMB := Lib.hid hmb
    refine (rcheck_is (chkE_ok hmb) Sm w1 HM.out HS.out).mono ?_
    rintro e w2 ⟨rfl, hb2⟩
    have HB2 := Lib.hid (Bt HB1.out hb2)
    have HT2 := Lib.hid (HT.out.below hb2)
    have HG2 := Lib.hid (HG.out.later hb2)
    obtain ⟨x0, x1, x2, xk, x35, x36⟩ := nm_cells (blk_range HG2.out) HMK.out
    obtain ⟨y0, y1, y2, y38, y39⟩ := rt_cells HT2.out.blk HT2.out.nm.k32
    simp only [Nat.zero_add] at x0 x1 x2 xk x35 x36
    obtain ⟨mn, hmn⟩ : ∃ x, x = m.node := ⟨_, rfl⟩
    obtain ⟨mv, hmv⟩ : ∃ x, x = m.ver := ⟨_, rfl⟩
    obtain ⟨v0, hv0⟩ : ∃ x, x = m0.ver := ⟨_, rfl⟩
    rw [← hmn] at x2
    rw [← hmv] at x0
    rw [← hv0] at y2
    have HMN := Lib.hid hmn
    have HMV := Lib.hid hmv
    have HV0 := Lib.hid hv0
    have lg := HG2.out.lt
    have lt := HT2.out.blk.lt
    clear hb2 hmb xk x1 x35 x36 y38 y39 hmn hmv hv0
    by_cases q1 : mn = node
    · have q1' : (mn != node) = false := by simp [q1]
      have HQ1 := Lib.hid q1
      have hlt : mv < v0 := by
        refine Decidable.byContradiction fun hc => HE.out ?_
        unfold setE
        rw [if_neg (by rw [HMB.out]; simp), if_neg (by rw [← HMN.out]; simpa using HQ1.out), if_neg (by rw [← HMV.out, ← HV0.out]; exact hc)]
      have HX := Lib.hid (show setE m node m0.ver = 201 by
        unfold setE
        rw [if_neg (by rw [HMB.out]; simp), if_neg (by rw [← HMN.out]; simpa using HQ1.out), if_pos (by rw [← HMV.out, ← HV0.out]; exact hlt)])
      have hmv0 : 0 ≤ mv := by rw [HMV.out]; exact (nm_ok HMB.out).ver.1
      cases has
      · exfalso
        have := HL.out rfl
        have := HV0.out
        omega
      · have hd : decide (mv < v0) = true := decide_eq_true hlt
        clear q1
        go_wp2_with fail
        go_quiet (fail)
        go_wp2_with fail
        go_quiet (fail)
        go_wp2_with fail
        go_ret
        exact ⟨ret_int HX.out.symm, BdN (BdN HB2.out _) _⟩
    · have q1' : (mn != node) = true := by simp [q1]
      have HX := Lib.hid (show setE m node m0.ver = 220 by
        unfold setE
        rw [if_neg (by rw [HMB.out]; simp), if_pos (by rw [← HMN.out]; simpa using q1)])
      clear q1
      go_wp2_with fail
      go_quiet (fail)
      go_wp2_with fail
      go_ret
      exact ⟨ret_int HX.out.symm, BdN HB2.out _⟩

theorem nm_own {w : World} {B : Nat} {n m : Nm} (h : PsOwn w B n.PA n.ps.length n.pc n.ps) (he : NmEq n m) (hk : m.ks.length = 32) (hb : Byt m.ks) (hp : ∀ p ∈ m.ps, p.ks.length = 32 ∧ Byt p.ks) : NmAt w (fun i => B ≤ i ∧ i < w.heap.size) n := by
  refine ⟨by rw [he.ks]; exact hk, by rw [he.ks]; exact hb, (Rd.of_own h.1).mono (fun i hi => ⟨own_ge h.1 i hi, own_lt h.1 i hi⟩), fun q hq => ?_⟩
  obtain ⟨p, hp', e⟩ := mem_px he.ps hq
  have e2 : q.ks = p.ks := congrArg Px.ks e
  exact (h.2 q hq).at_ (by rw [e2]; exact (hp p hp').1) (by rw [e2]; exact (hp p hp').2)
def RSetDid (m : Nm) (g : Nat) (node tick : Int) (W : World) (e : Ending) (w' : World) : Prop :=
  ∃ n S', e = .returned (.int .i64 0) ∧ RtAt w' S' g node true n tick ∧ NmEq n m ∧ Mod (fun i => i = g) W w' ∧ ∀ i, S' i → i = g ∨ W.heap.size ≤ i
set_option maxHeartbeats 4000000 in
theorem rset_ok (Sm S : Nat → Prop) (m : Nm) (g : Nat) (node tick : Int) (has : Bool) (m0 : Nm) (W : World) (hm : NmAt W Sm m) (hSm : ∀ i, Sm i → i < W.heap.size ∧ i ≠ g) (h : RtAt W S g node has m0 tick) (hE : setE m node m0.ver = 0)
    (z0 : m.ps.length * 96 ≤ 140737488355328) (z1 : ∀ p ∈ m.ps, p.ins.length * 16 ≤ 140737488355328 ∧ p.outs.length * 16 ≤ 140737488355328) :
    Calls Try.prog 14 #[.pointer (some ⟨g, 0, none⟩), m.v] W (RSetDid m g node tick W) := by
  obtain ⟨hmb, hnd, hver⟩ := setE_zero hE
  obtain ⟨w1, hw1⟩ : ∃ u, u = W.alloc (.cells m.L.toArray 34) := ⟨_, rfl⟩
  have hb1 : Below W.heap.size W w1 := by rw [hw1]; exact Ba (B0 W) _
  have HG := Lib.hid (show Blk w1 W.heap.size 34 m.L.toArray by rw [hw1]; exact Blk.new _ _ _)
  have HB1 := Lib.hid hb1
  have HW1 := Lib.hid hw1
  have HM := Lib.hid (hm.below hb1 (fun i hi => (hSm i hi).1))
  have HS := Lib.hid (show ∀ i, Sm i → i < w1.heap.size from fun i hi => Nat.lt_of_lt_of_le (hSm i hi).1 hb1.size)
  have HSG := Lib.hid (show ∀ i, Sm i → i ≠ g from fun i hi => (hSm i hi).2)
  have HMK := Lib.hid hm.k32
  have HMB := Lib.hid hm.kb
  have HML := Lib.hid (Nm.len hm.k32)
  have HPK := Lib.hid (show ∀ p ∈ m.ps, p.ks.length = 32 ∧ Byt p.ks from fun p hp => ⟨(hm.each p hp).k32, (hm.each p hp).kb⟩)
  have HT := Lib.hid (h.below hb1)
  have HCK := Lib.hid (chkE_ok hmb)
  have HZ := Lib.hid z1
  have hgW : g < W.heap.size := h.blk.lt
  clear hm hSm hb1 hw1 h hE hmb z1
  go_enter Try.func14, Try.ntmps14
  go_upto_region 1 with fail
  change Code.wp _ _ _ _ (W.alloc (.cells m.L.toArray 34))
  rw [← HW1.out]
  go_wp2_with (first | (refine step_load big_map (by first | rfl | simp [Region.wanted, yielded]) (.tmp 3) rfl W.heap.size 0 rfl m.L HML.out (blk_range HG.out) ?_) | fail)
  refine (rcheck_is HCK.out Sm w1 HM.out HS.out).mono ?_
  rintro e w2 ⟨rfl, hb2⟩
  have HB2 := Lib.hid (Bt HB1.out hb2)
  have HT2 := Lib.hid (HT.out.below hb2)
  have HG2 := Lib.hid (HG.out.later hb2)
  have HM2 := Lib.hid (HM.out.below hb2 HS.out)
  have HS2 := Lib.hid (show ∀ i, Sm i → i < w2.heap.size from fun i hi => Nat.lt_of_lt_of_le (HS.out i hi) hb2.size)
  obtain ⟨x0, x1, x2, xk, x35, x36⟩ := nm_cells (blk_range HG2.out) HMK.out
  obtain ⟨y0, y1, y2, y38, y39⟩ := rt_cells HT2.out.blk HT2.out.nm.k32
  simp only [Nat.zero_add] at x0 x1 x2 xk x35 x36
  obtain ⟨mn, hmn⟩ : ∃ x, x = m.node := ⟨_, rfl⟩
  obtain ⟨mv, hmv⟩ : ∃ x, x = m.ver := ⟨_, rfl⟩
  obtain ⟨v0, hv0⟩ : ∃ x, x = m0.ver := ⟨_, rfl⟩
  rw [← hmn] at x2 hnd
  rw [← hmv] at x0 hver
  rw [← hv0] at y2 hver
  have q1' : (mn != node) = false := by simp [hnd]
  have lg := HG2.out.lt
  have lt := HT2.out.blk.lt
  have hd : decide (mv < v0) = false := decide_eq_false (by omega)
  have hd2 : ¬ mv < v0 := by omega
  have f1 := HT2.out.blk.frozen 1
  clear hb2 xk x1 x35 x36 y38 y39 hmn hmv hv0 hnd hver
  cases has
  all_goals
    go_wp2_with fail
    go_quiet (fail)
    obtain ⟨n1, rfl⟩ : ∃ n1, n1 = nq := ⟨_, rfl⟩
    go_wp2_with fail
    go_quiet (fail)
    obtain ⟨n2, rfl⟩ : ∃ n2, n2 = nq := ⟨_, rfl⟩
    go_upto_region 8 with fail
    obtain ⟨w3, hw3⟩ : ∃ u, u = (w2.drewN (n1 + n2)).setCell ⟨g, 1, none⟩ (.bool true) := ⟨_, rfl⟩
    rw [← hw3]
    have hm3 : Mod (fun i => i = g) w2 w3 := by rw [hw3]; exact ((Mod.refl (fun i => i = g) w2).drewN (n1 + n2)).setCell (p := ⟨g, 1, none⟩) (.inl rfl) _
    have HK3 := Lib.hid (show Blk w3 g 73 (rtL node true m0 tick).toArray by
      have hh := (HT2.out.blk.drewN (n1 + n2)).set_ 1 (.bool true)
      rw [rtL_has] at hh
      rw [hw3]
      exact hh)
    have HM3 := Lib.hid (HM2.out.kept hm3 (fun i hi e => HSG.out i hi e))
    have HG3 := Lib.hid (HG2.out.kept hm3 (fun e => by omega))
    have HN3 := Lib.hid HT2.out.nm.k32
    have HS3 := Lib.hid (show ∀ i, Sm i → i < w3.heap.size from fun i hi => Nat.lt_of_lt_of_le (HS2.out i hi) hm3.size)
    have hs2 := HB2.out.size
    have HMM := Lib.hid hm3
    clear hw3 hm3 y0 y1 y2 f1 hd hd2 q1' lg lt
    go_wp2_with (first | (refine step_load big_map (by first | rfl | simp [Region.wanted, yielded]) (.tmp 3) rfl W.heap.size 0 rfl m.L HML.out (blk_range HG3.out) ?_) | fail)
    refine (copy_any Sm m w3 HM3.out HS3.out z0 HZ.out).mono ?_
    rintro e w4 ⟨n, rfl, hn, ho, hb4⟩
    have HN := Lib.hid hn
    have HO := Lib.hid ho
    have HK4 := Lib.hid (HK3.out.later hb4)
    have HB4 := Lib.hid hb4
    have HNK := Lib.hid (show n.ks.length = 32 by rw [hn.ks]; exact HMK.out)
    have HNL := Lib.hid (Nm.len HNK.out)
    have HNO := Lib.hid (show ∀ v ∈ n.L, v.oneCell' = true from n.one)
    have HRL := Lib.hid (show 2 + 37 ≤ (rtL node true m0 tick).length by simp [rtL, Nm.len HN3.out])
    have lt4 := HK4.out.lt
    clear hn ho hb4
    go_wp2_with (first | (refine step_store_at big_map rfl (.tmp 36) (.tmp 34) rfl g 2 rfl n.L HNL.out HNO.out rfl 73 (rtL node true m0 tick) HK4.out HRL.out ?_; intro w5 hb5 hm5 hs5; have HK5 := Lib.hid hb5; have HM5 := Lib.hid hm5; clear hb5 hm5 hs5) | fail)
    go_ret
    have h45 := HB4.out.size
    have h23 := HMM.out.size
    have h5 := HM5.out.size
    have hno := nm_own (HO.out.kept HM5.out (fun i hi => by omega)) HN.out HMK.out HMB.out HPK.out
    refine ⟨n, fun i => i = g ∨ (w3.heap.size ≤ i ∧ i < w5.heap.size), rfl, ⟨.inl rfl, fun i hi => ?_, ?_, ?_⟩, HN.out, ?_, fun i hi => ?_⟩
    · rcases hi with rfl | hi
      · omega
      · exact hi.2
    · have := HK5.out
      rw [rtL_spl HN3.out HNK.out] at this
      exact this
    · exact ⟨hno.k32, hno.kb, hno.rp.mono (fun i hi => ⟨.inr hi, by omega⟩), fun p hp => (hno.each p hp).mono' (fun i hi => ⟨.inr hi, by omega⟩)⟩
    · exact ((Mod.of_below (S := fun i => i = g) (show Below W.heap.size W w2 from HB2.out)).trans HMM.out (fun i hi => .inl hi)).trans ((Mod.of_below (S := fun i => i = g) HB4.out).trans HM5.out (fun i hi => .inl hi)) (fun i hi => .inl hi)
    · rcases hi with rfl | hi
      · exact .inl rfl
      · exact .inr (by omega)
end Go.Proofs.Ytgmndppjdnpejaa
