/- The chapter's message, there and back. -/
import Derived.Test.YtnphnaggamfoiaaS2
import Derived.Test.YtnphnaggamfoiaaL5
import Derived.Test.YtnphnaggamfoiaaE9
namespace Go.Proofs.Ytnphnaggamfoiaa
open Go.RowKit
set_option maxRecDepth 20000
set_option linter.unusedVariables false
set_option linter.unusedSimpArgs false

theorem us_chk (A : Option Addr) : chkB (usP A) [usE] = true := rfl
theorem us_pack (A : Option Addr) : packP (usP A) [usE] [] = usB := by
  rw [packP_app (may_of (us_chk A)) rfl rfl]
  rfl
theorem us_full : Full (usP none) [usE] [] := ⟨may_of (us_chk none), rfl, rfl, by intro x hx; simp only [List.mem_singleton] at hx; subst hx; intro y hy; simp [usE] at hy; omega, by intro x hx; simp at hx⟩
theorem us_byt : Byt usB := by
  rw [← us_pack none, packP_app (may_of (us_chk none)) rfl rfl]
  have h := us_full
  intro x hx
  exact pack_byt h x hx
theorem us_un : (uZ usB).e = 0 ∧ uP0 usB = (usP none).norm ∧ uL0 usB = [usE] ∧ uD0 usB = [] := by
  have h := unpack_cut us_full (us_chk none) (r := []) (by intro x hx; simp at hx) (packB (usP none) [usE] []).length (ys := usB) (by
    rw [List.append_nil, List.take_length, ← us_pack none, packP_app (may_of (us_chk none)) rfl rfl])
  rcases h with h | h
  · omega
  · exact h.2.2 rfl

def TrueB (w : World) (e : Ending) (w' : World) : Prop := e = .returned (.bool true) ∧ Below w.heap.size w w'
theorem norm_eq {P Q : Po} (h : P.norm = Q.norm) : ∃ A c S k, P = { Q with EA := A, ec := c, SA := S, sk := k } :=
  ⟨P.EA, P.ec, P.SA, P.sk, by cases P; cases Q; simp [Po.norm] at h ⊢; exact h⟩
set_option maxHeartbeats 4000000 in
theorem awake_any (w : World) : Calls Try.prog 17 #[] w (TrueB w) := by
  go_enter Try.func17, Try.ntmps17
  go_wp2_with fail
  refine (usual_any w).mono ?_
  rintro e w1 ⟨A, B, l, rfl, hp, hl, hr, hb⟩
  have HL := Lib.hid hl
  go_wp2_with fail
  obtain ⟨wg, hwg⟩ : ∃ u, u = w1.alloc (.cells (usP A).cs 27) := ⟨_, rfl⟩
  have HG := Lib.hid (show Blk wg w1.heap.size 27 (usP A).cs by rw [hwg]; exact Blk.new _ _ _)
  have hb1 : Below w1.heap.size w1 wg := by rw [hwg]; exact Ba (B0 w1) _
  have HP := Lib.hid (hp.below hb1)
  have HR := Lib.hid (hr.below hb1 (fun i hi => hi.2))
  have HB := Lib.hid (Bt hb hb1)
  have HT := Lib.hid (show ∀ i, (w.heap.size ≤ i ∧ i < w1.heap.size) → i < wg.heap.size from fun i hi => Nat.lt_of_lt_of_le hi.2 hb1.size)
  have hsz := hb1.size
  rw [← hwg]
  clear hwg hp hr hb hb1 hl
  refine (pack_ok _ (usP A) l [] wg HP.out (by rw [HL.out]; exact us_chk A)).mono ?_
  rw [HL.out, us_pack]
  rintro e w2 ⟨A2, c2, rfl, hf⟩
  have hk := hf.kept
  replace HG := Lib.hid (HG.out.later hk)
  replace HP := Lib.hid (HP.out.below hk)
  replace HR := Lib.hid (HR.out.below hk HT.out)
  replace HB := Lib.hid (Bt HB.out hk)
  replace HT := Lib.hid (show ∀ i, (w.heap.size ≤ i ∧ i < w1.heap.size) → i < w2.heap.size from fun i hi => Nat.lt_of_lt_of_le (HT.out i hi) hk.size)
  have HF := Lib.hid hf.rd
  clear hf hk
  go_wp2_with fail
  refine (un_any _ B 50 usB w2 HR.out HT.out us_byt (by show (50 : Nat) ≤ _; omega)).mono ?_
  rintro e w3 ⟨Q, m, d, rfl, hq, hk, hcase⟩
  obtain ⟨u0, u1, u2, u3⟩ := us_un
  rcases hcase with ⟨_, hn, hm, hd⟩ | ⟨h, _⟩
  · rw [u1] at hn
    rw [u2] at hm
    rw [u3] at hd
    subst hd
    obtain ⟨A3, c3, S3, k3, rfl⟩ := norm_eq hn
    rw [u0]
    have HM := Lib.hid hm
    replace HG := Lib.hid (HG.out.later hk)
    replace HP := Lib.hid (HP.out.below hk)
    replace HR := Lib.hid (HR.out.below hk HT.out)
    replace HB := Lib.hid (Bt HB.out hk)
    replace HT := Lib.hid (show ∀ i, (w.heap.size ≤ i ∧ i < w1.heap.size) → i < w3.heap.size from fun i hi => Nat.lt_of_lt_of_le (HT.out i hi) hk.size)
    have HF2 := Lib.hid (show ∀ i, i < w2.heap.size → i < w3.heap.size from fun i hi => Nat.lt_of_lt_of_le hi hk.size)
    replace HF := Lib.hid (HF.out.below hk (fun _ h => h))
    clear hk hn hm
    go_wp2_with fail
    obtain ⟨wq, hwq⟩ : ∃ u, u = w3.alloc (.cells (Po.cs ⟨3, 1, 3, 5, 7, 4, 0, false, 0, A3, 1, c3, 0, 0, 0, S3, 0, k3⟩) 27) := ⟨_, rfl⟩
    have HGQ := Lib.hid (show Blk wq w3.heap.size 27 (Po.cs ⟨3, 1, 3, 5, 7, 4, 0, false, 0, A3, 1, c3, 0, 0, 0, S3, 0, k3⟩) by rw [hwq]; exact Blk.new _ _ _)
    have hk : Below w3.heap.size w3 wq := by rw [hwq]; exact Ba (B0 w3) _
    rw [← hwq]
    clear hwq
    have HQ := Lib.hid (hq.below hk)
    replace HG := Lib.hid (HG.out.later hk)
    replace HP := Lib.hid (HP.out.below hk)
    replace HR := Lib.hid (HR.out.below hk HT.out)
    replace HB := Lib.hid (Bt HB.out hk)
    replace HF := Lib.hid (HF.out.below hk HF2.out)
    clear hk hq
    refine (eq_bytes _ _ _ _ usB usB wq HF.out HR.out).mono ?_
    rintro e w4 ⟨rfl, nd, hw4⟩
    rw [show eqB usB usB = true by simp [eqB]]
    have hk : Below wq.heap.size wq w4 := by rw [hw4]; exact BdN (B0 wq) nd
    replace HQ := Lib.hid (HQ.out.below hk)
    replace HG := Lib.hid (HG.out.later hk)
    replace HGQ := Lib.hid (HGQ.out.later hk)
    replace HP := Lib.hid (HP.out.below hk)
    replace HB := Lib.hid (Bt HB.out hk)
    clear hk hw4
    obtain ⟨x0, x1, x2, x3, x4, x5, x6, x7, x8, x9, x10, x11, x12, x13⟩ := blk14 HG.out
    obtain ⟨z0, z1, z2, z3, z4, z5, z6, z7, z8, z9, z10, z11, z12, z13⟩ := blk14 HGQ.out
    go_wp2_with fail
    refine (lsame_yes _ _ 3 1 3 5 7 4 0 false 0 A A3 1 1 c3 0 0 0 none S3 0 0 k3 l m [] w4 HP.out HQ.out (HL.out.trans HM.out.symm)).mono ?_
    rintro e w5 ⟨rfl, hk⟩
    replace HG := Lib.hid (HG.out.later hk)
    replace HP := Lib.hid (HP.out.below hk)
    replace HB := Lib.hid (Bt HB.out hk)
    clear hk x0 x1 x2 x3 x4 x5 x6 x7 x8 x9 x10 x11 x12 x13 z0 z1 z2 z3 z4 z5 z6 z7 z8 z9 z10 z11 z12 z13
    obtain ⟨x0, x1, x2, x3, x4, x5, x6, x7, x8, x9, x10, x11, x12, x13⟩ := blk14 HG.out
    go_wp2_with fail
    refine (check_any _ (usP A) l w5 HP.out.rd HP.out.lt HP.out.len HP.out.most HP.out.dmost).mono ?_
    rw [chkE_yes (show chkB (usP A) (l.map En.ed) = true by rw [HL.out]; exact us_chk A)]
    rintro e w6 ⟨rfl, hk⟩
    replace HB := Lib.hid (Bt HB.out hk)
    clear hk x0 x1 x2 x3 x4 x5 x6 x7 x8 x9 x10 x11 x12 x13
    go_wp2_with fail
    go_ret
    exact ⟨rfl, HB.out⟩
  · exact absurd u0 h
end Go.Proofs.Ytnphnaggamfoiaa
