/- What is packed is unpacked as it was. -/
import Derived.Test.YtnphnaggamfoiaaS3
namespace Go.Proofs.Ytnphnaggamfoiaa
open Go.RowKit
set_option maxRecDepth 20000
set_option linter.unusedVariables false
set_option linter.unusedSimpArgs false

theorem back_un {P : Po} {l : List Ed} {d : List Int} (h : Full P l d) (hc : chkB P l = true) : (uZ (packP P l d)).e = 0 ∧ uP0 (packP P l d) = P.norm ∧ uL0 (packP P l d) = l ∧ uD0 (packP P l d) = d := by
  rw [packP_app h.may h.en h.sn]
  have h := unpack_cut h hc (r := []) (by intro x hx; simp at hx) (packB P l d).length (ys := packB P l d) (by rw [List.append_nil, List.take_length])
  rcases h with h | h
  · omega
  · exact h.2.2 (by simp)
theorem packP_byt {P : Po} {l : List Ed} {d : List Int} (h : Full P l d) : Byt (packP P l d) := by
  rw [packP_app h.may h.en h.sn]; exact pack_byt h
theorem full_of {w : World} {S : Nat → Prop} {P : Po} {l : List En} {d : List Int} (hp : PoAt w S P l d) (hc : chkB P (l.map En.ed) = true) (hbl : ∀ x ∈ l, Byt x.bs) (hbd : Byt d) : Full P (l.map En.ed) d :=
  ⟨may_of hc, by rw [List.length_map, hp.len], hp.dlen, fun x hx => by obtain ⟨y, hy, rfl⟩ := List.mem_map.1 hx; exact hbl y hy, hbd⟩

set_option maxHeartbeats 4000000 in
theorem postBack_at (W : World) (S : Nat → Prop) (P : Po) (l : List En) (d : List Int) (hp : PoAt W S P l d) (hbl : ∀ x ∈ l, Byt x.bs) (hbd : Byt d) : Calls Try.prog 9 #[P.v] W (TrueB W) := by
  obtain ⟨kd, fr, tq, te, ix, lt, co, ok, hi, EA, en, ec, si, st, sc, SA, sn, sk⟩ := P
  cases hc : chkB ⟨kd, fr, tq, te, ix, lt, co, ok, hi, EA, en, ec, si, st, sc, SA, sn, sk⟩ (l.map En.ed)
  · have HC := Lib.hid hc
    have HP0 := Lib.hid hp
    clear hc hp hbl hbd
    go_enter Try.func9, Try.ntmps9
    go_wp2_with fail
    obtain ⟨wg, hwg⟩ : ∃ u, u = W.alloc (.cells (Po.cs ⟨kd, fr, tq, te, ix, lt, co, ok, hi, EA, en, ec, si, st, sc, SA, sn, sk⟩) 27) := ⟨_, rfl⟩
    have HG := Lib.hid (show Blk wg W.heap.size 27 (Po.cs ⟨kd, fr, tq, te, ix, lt, co, ok, hi, EA, en, ec, si, st, sc, SA, sn, sk⟩) by rw [hwg]; exact Blk.new _ _ _)
    have hk : Below W.heap.size W wg := by rw [hwg]; exact Ba (B0 W) _
    have HP := Lib.hid (HP0.out.below hk)
    have HB := Lib.hid hk
    rw [← hwg]
    clear hwg hk
    refine (pack_bad _ _ l d wg HP.out HC.out).mono ?_
    rintro e w2 ⟨rfl, hk⟩
    replace HG := Lib.hid (HG.out.later hk)
    replace HP := Lib.hid (HP.out.below hk)
    replace HB := Lib.hid (Bt HB.out hk)
    clear hk
    obtain ⟨x0, x1, x2, x3, x4, x5, x6, x7, x8, x9, x10, x11, x12, x13⟩ := blk14 HG.out
    go_wp2_with fail
    refine (check_any _ _ l w2 HP.out.rd HP.out.lt HP.out.len HP.out.most HP.out.dmost).mono ?_
    rw [chkE_no HC.out]
    rintro e w3 ⟨rfl, hk⟩
    replace HB := Lib.hid (Bt HB.out hk)
    clear hk x0 x1 x2 x3 x4 x5 x6 x7 x8 x9 x10 x11 x12 x13
    go_wp2_with fail
    refine (awake_any w3).mono ?_
    rintro e w4 ⟨rfl, hk⟩
    replace HB := Lib.hid (Bt HB.out hk)
    clear hk
    go_wp2_with fail
    go_ret
    exact ⟨rfl, HB.out⟩
  · have HC := Lib.hid hc
    have HP0 := Lib.hid hp
    have hfull := full_of hp hc hbl hbd
    have HU := Lib.hid (back_un hfull hc)
    have HY := Lib.hid (packP_byt hfull)
    have HN := Lib.hid (packP_len d hfull.may hp.dlen)
    obtain ⟨ys, hys⟩ : ∃ ys, ys = packP ⟨kd, fr, tq, te, ix, lt, co, ok, hi, EA, en, ec, si, st, sc, SA, sn, sk⟩ (l.map En.ed) d := ⟨_, rfl⟩
    rw [← hys] at HU HY HN
    have HYS := Lib.hid hys
    clear hc hp hbl hbd hfull hys
    go_enter Try.func9, Try.ntmps9
    go_wp2_with fail
    obtain ⟨wg, hwg⟩ : ∃ u, u = W.alloc (.cells (Po.cs ⟨kd, fr, tq, te, ix, lt, co, ok, hi, EA, en, ec, si, st, sc, SA, sn, sk⟩) 27) := ⟨_, rfl⟩
    have HG := Lib.hid (show Blk wg W.heap.size 27 (Po.cs ⟨kd, fr, tq, te, ix, lt, co, ok, hi, EA, en, ec, si, st, sc, SA, sn, sk⟩) by rw [hwg]; exact Blk.new _ _ _)
    have hk : Below W.heap.size W wg := by rw [hwg]; exact Ba (B0 W) _
    have HP := Lib.hid (HP0.out.below hk)
    have HB := Lib.hid hk
    rw [← hwg]
    clear hwg hk
    refine (pack_ok _ _ l d wg HP.out HC.out).mono ?_
    rw [← HYS.out]
    rintro e w2 ⟨A2, c2, rfl, hf⟩
    have hk := hf.kept
    replace HG := Lib.hid (HG.out.later hk)
    replace HP := Lib.hid (HP.out.below hk)
    replace HB := Lib.hid (Bt HB.out hk)
    have HF := Lib.hid hf.rd
    clear hf hk
    go_wp2_with fail
    refine (un_any _ A2 c2 ys w2 HF.out (fun _ h => h) HY.out (by have := HN.out; omega)).mono ?_
    rintro e w3 ⟨Q, m, d', rfl, hq, hk, hcase⟩
    obtain ⟨u0, u1, u2, u3⟩ := HU.out
    rcases hcase with ⟨_, hn, hm, hd⟩ | ⟨h, _⟩
    · rw [u1] at hn
      rw [u2] at hm
      rw [u3] at hd
      subst hd
      obtain ⟨A3, c3, S3, k3, rfl⟩ := norm_eq hn
      rw [u0]
      have HM := Lib.hid hm
      replace HG := Lib.hid (HG.out.later hk)
      replace HP := Lib.hid (HP.out.below hk)
      replace HB := Lib.hid (Bt HB.out hk)
      clear hk hn hm u0 u1 u2 u3
      obtain ⟨x0, x1, x2, x3, x4, x5, x6, x7, x8, x9, x10, x11, x12, x13⟩ := blk14 HG.out
      have lg := HG.out.lt
      go_wp2_with fail
      clear x0 x1 x2 x3 x4 x5 x6 x7 x8 x9 x10 x11 x12 x13 lg
      obtain ⟨wq, hwq⟩ : ∃ u, u = w3.alloc (.cells (Po.cs ⟨kd, fr, tq, te, ix, lt, co, ok, hi, A3, en, c3, si, st, sc, S3, sn, k3⟩) 27) := ⟨_, rfl⟩
      have HGQ := Lib.hid (show Blk wq w3.heap.size 27 (Po.cs ⟨kd, fr, tq, te, ix, lt, co, ok, hi, A3, en, c3, si, st, sc, S3, sn, k3⟩) by rw [hwq]; exact Blk.new _ _ _)
      have hk : Below w3.heap.size w3 wq := by rw [hwq]; exact Ba (B0 w3) _
      rw [← hwq]
      clear hwq
      have HQ := Lib.hid (hq.below hk)
      replace HG := Lib.hid (HG.out.later hk)
      replace HP := Lib.hid (HP.out.below hk)
      replace HB := Lib.hid (Bt HB.out hk)
      clear hk hq
      refine (check_any _ _ l wq HP.out.rd HP.out.lt HP.out.len HP.out.most HP.out.dmost).mono ?_
      rw [chkE_yes HC.out]
      rintro e w4 ⟨rfl, hk⟩
      replace HQ := Lib.hid (HQ.out.below hk)
      replace HG := Lib.hid (HG.out.later hk)
      replace HGQ := Lib.hid (HGQ.out.later hk)
      replace HP := Lib.hid (HP.out.below hk)
      replace HB := Lib.hid (Bt HB.out hk)
      clear hk
      obtain ⟨x0, x1, x2, x3, x4, x5, x6, x7, x8, x9, x10, x11, x12, x13⟩ := blk14 HG.out
      obtain ⟨z0, z1, z2, z3, z4, z5, z6, z7, z8, z9, z10, z11, z12, z13⟩ := blk14 HGQ.out
      go_wp2_with fail
      refine (lsame_yes _ _ kd fr tq te ix lt co ok hi EA A3 en ec c3 si st sc SA S3 sn sk k3 l m d' w4 HP.out HQ.out HM.out.symm).mono ?_
      rintro e w5 ⟨rfl, hk⟩
      replace HB := Lib.hid (Bt HB.out hk)
      clear hk x0 x1 x2 x3 x4 x5 x6 x7 x8 x9 x10 x11 x12 x13 z0 z1 z2 z3 z4 z5 z6 z7 z8 z9 z10 z11 z12 z13
      go_wp2_with fail
      refine (awake_any w5).mono ?_
      rintro e w6 ⟨rfl, hk⟩
      replace HB := Lib.hid (Bt HB.out hk)
      clear hk
      go_wp2_with fail
      go_ret
      exact ⟨rfl, HB.out⟩
    · exact absurd u0 h
theorem postBack_walk {H : Type} {enc : TypeId × Value → H} (W : World) {base : Nat} {sp : Nat → Bool} {held : Bool} {v : Value} {d : DataW H} {pl : List MemPlace} (hv : Value.okWide Try.prog W .any base 27 v) (ht : DataW.Trod enc Try.prog W 0 sp held 27 v d pl)
    (hz : ∀ n ∈ d.weights Try.prog 27, n ≤ reachBytes) :
    Calls Try.prog 9 #[v] W fun e w' => e = .returned (.bool true) ∧ Below W.heap.size W w' := by
  obtain ⟨p, l, bs, rfl, hp⟩ := open_post hv ht hz
  exact postBack_at W _ p l bs hp.at_ (fun x hx => (hp.ents.each x hx).2.2.2.2) hp.byt
end Go.Proofs.Ytnphnaggamfoiaa
