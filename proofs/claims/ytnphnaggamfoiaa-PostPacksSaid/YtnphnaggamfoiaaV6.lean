/- A message's bytes are the document's. -/
import Derived.Test.YtnphnaggamfoiaaV5
import Derived.Test.YtnphnaggamfoiaaD7
namespace Go.Proofs.Ytnphnaggamfoiaa
open Go.RowKit
set_option maxRecDepth 20000
set_option linter.unusedVariables false
set_option linter.unusedSimpArgs false

theorem norm_eqP {P Q : Po} (h : P.norm = Q.norm) : ∃ A c S k, P = { Q with EA := A, ec := c, SA := S, sk := k } :=
  ⟨P.EA, P.ec, P.SA, P.sk, by cases P; cases Q; simp [Po.norm] at h ⊢; exact h⟩
theorem may_normP {P : Po} {l : List Ed} : chkB P.norm l = chkB P l := by
  have := chk_norm P l
  unfold chkE at this
  cases h1 : chkB P.norm l <;> cases h2 : chkB P l <;> simp [h1, h2] at this ⊢
theorem smB_same {P Q : Po} {l m : List Ed} {d d' : List Int} (h : P.norm = Q.norm) (hl : l = m) (hd : d = d') : smB P Q l m d d' = true := by
  subst hl hd
  obtain ⟨A, c, S, k, rfl⟩ := norm_eqP h
  simp [smB, snB, eqEs_refl, eqB]
def TrueP (w : World) (e : Ending) (w' : World) : Prop := e = .returned (.bool true) ∧ Below w.heap.size w w'
set_option maxHeartbeats 4000000 in
theorem postPacks_at (W : World) (S : Nat → Prop) (P : Po) (l : List En) (d : List Int) (hp : PoAt W S P l d) (hn : P.en * 48 ≤ 140737488351232) : Calls Try.prog 8 #[P.v] W (TrueP W) := by
  have HP0 := Lib.hid hp
  clear hp
  go_enter Try.func8, Try.ntmps8
  go_wp2_with fail
  obtain ⟨wg, hwg⟩ : ∃ u, u = W.alloc (.cells P.cs 27) := ⟨_, rfl⟩
  have HG := Lib.hid (show Blk wg W.heap.size 27 P.cs by rw [hwg]; exact Blk.new _ _ _)
  have hk : Below W.heap.size W wg := by rw [hwg]; exact Ba (B0 W) _
  have HB := Lib.hid hk
  have HP := Lib.hid (HP0.out.below hk)
  rw [← hwg]
  clear hwg hk
  refine (copy_any S P l d wg HP.out hn).mono ?_
  rintro e w1 ⟨Q, l', rfl, hq, hqn, hle, hk⟩
  replace HG := Lib.hid (HG.out.later hk)
  replace HP := Lib.hid (HP.out.below hk)
  replace HB := Lib.hid (Bt HB.out hk)
  have HQ0 := Lib.hid hq
  have HN := Lib.hid hqn
  have HLE := Lib.hid hle
  clear hk hq hqn hle
  go_wp2_with fail
  obtain ⟨wq, hwq⟩ : ∃ u, u = w1.alloc (.cells Q.cs 27) := ⟨_, rfl⟩
  have HGQ := Lib.hid (show Blk wq w1.heap.size 27 Q.cs by rw [hwq]; exact Blk.new _ _ _)
  have hk : Below w1.heap.size w1 wq := by rw [hwq]; exact Ba (B0 w1) _
  rw [← hwq]
  clear hwq
  have HQ := Lib.hid (HQ0.out.below hk)
  replace HG := Lib.hid (HG.out.later hk)
  replace HP := Lib.hid (HP.out.below hk)
  replace HB := Lib.hid (Bt HB.out hk)
  clear hk
  have hcq : chkB Q (l'.map En.ed) = chkB P (l.map En.ed) := by rw [HLE.out, ← may_normP (P := Q), HN.out, may_normP]
  cases hc : chkB P (l.map En.ed)
  · rw [hc] at hcq
    have HC := Lib.hid hc
    have HCQ := Lib.hid hcq
    clear hc hcq
    refine (pack_bad _ Q l' d wq HQ.out HCQ.out).mono ?_
    rintro e w2 ⟨rfl, hk⟩
    replace HG := Lib.hid (HG.out.later hk)
    replace HGQ := Lib.hid (HGQ.out.later hk)
    replace HP := Lib.hid (HP.out.below hk)
    replace HQ := Lib.hid (HQ.out.below hk)
    replace HB := Lib.hid (Bt HB.out hk)
    clear hk
    obtain ⟨x0, x1, x2, x3, x4, x5, x6, x7, x8, x9, x10, x11, x12, x13⟩ := blk14 HG.out
    go_wp2_with fail
    refine (refpack_bad _ P l d w2 HP.out HC.out).mono ?_
    rintro e w3 ⟨rfl, hk⟩
    replace HG := Lib.hid (HG.out.later hk)
    replace HGQ := Lib.hid (HGQ.out.later hk)
    replace HP := Lib.hid (HP.out.below hk)
    replace HQ := Lib.hid (HQ.out.below hk)
    replace HB := Lib.hid (Bt HB.out hk)
    clear hk x0 x1 x2 x3 x4 x5 x6 x7 x8 x9 x10 x11 x12 x13
    go_wp2_with fail
    refine (eq_bytes (fun _ => False) (fun _ => False) _ _ [] [] w3 (Rd.nil _ _ _) (Rd.nil _ _ _)).mono ?_
    rintro e w4 ⟨rfl, nd, hw4⟩
    rw [show eqB [] [] = true by simp [eqB]]
    have hk : Below w3.heap.size w3 w4 := by rw [hw4]; exact BdN (B0 w3) nd
    replace HG := Lib.hid (HG.out.later hk)
    replace HGQ := Lib.hid (HGQ.out.later hk)
    replace HP := Lib.hid (HP.out.below hk)
    replace HQ := Lib.hid (HQ.out.below hk)
    replace HB := Lib.hid (Bt HB.out hk)
    clear hk hw4
    obtain ⟨x0, x1, x2, x3, x4, x5, x6, x7, x8, x9, x10, x11, x12, x13⟩ := blk14 HG.out
    obtain ⟨z0, z1, z2, z3, z4, z5, z6, z7, z8, z9, z10, z11, z12, z13⟩ := blk14 HGQ.out
    go_wp2_with fail
    refine (same_any _ _ Q P l' l d d w4 HQ.out HP.out).mono ?_
    rw [smB_same HN.out HLE.out rfl]
    rintro e w5 ⟨rfl, hk⟩
    replace HB := Lib.hid (Bt HB.out hk)
    clear hk x0 x1 x2 x3 x4 x5 x6 x7 x8 x9 x10 x11 x12 x13 z0 z1 z2 z3 z4 z5 z6 z7 z8 z9 z10 z11 z12 z13
    go_wp2_with fail
    go_ret
    exact ⟨rfl, HB.out⟩
  · rw [hc] at hcq
    have hpk : packP Q (l'.map En.ed) d = packB P (l.map En.ed) d := by
      rw [packP_app (may_of hcq) (by rw [List.length_map, HQ.out.len]) HQ.out.dlen, HLE.out]
      have e1 : ∀ X : Po, packB X (l.map En.ed) d = packB X.norm (l.map En.ed) d := fun X => rfl
      rw [e1 Q, HN.out]
      rfl
    have HPK := Lib.hid hpk
    have HC := Lib.hid hc
    have HCQ := Lib.hid hcq
    clear hc hcq hpk
    refine (pack_ok _ Q l' d wq HQ.out HCQ.out).mono ?_
    rw [HPK.out]
    rintro e w2 ⟨A2, c2, rfl, hf⟩
    have hk := hf.kept
    replace HG := Lib.hid (HG.out.later hk)
    replace HGQ := Lib.hid (HGQ.out.later hk)
    replace HP := Lib.hid (HP.out.below hk)
    replace HQ := Lib.hid (HQ.out.below hk)
    replace HB := Lib.hid (Bt HB.out hk)
    have HF := Lib.hid hf.rd
    clear hk hf
    obtain ⟨x0, x1, x2, x3, x4, x5, x6, x7, x8, x9, x10, x11, x12, x13⟩ := blk14 HG.out
    go_wp2_with fail
    refine (refpack_ok _ P l d w2 HP.out HC.out).mono ?_
    rintro e w3 ⟨A3, c3, rfl, hf⟩
    have hk := hf.kept
    replace HG := Lib.hid (HG.out.later hk)
    replace HGQ := Lib.hid (HGQ.out.later hk)
    replace HP := Lib.hid (HP.out.below hk)
    replace HQ := Lib.hid (HQ.out.below hk)
    replace HB := Lib.hid (Bt HB.out hk)
    replace HF := Lib.hid (HF.out.below hk (fun _ h => h))
    have HF3 := Lib.hid hf.rd
    clear hk hf x0 x1 x2 x3 x4 x5 x6 x7 x8 x9 x10 x11 x12 x13
    go_wp2_with fail
    refine (eq_bytes _ _ _ _ _ _ w3 HF.out HF3.out).mono ?_
    rintro e w4 ⟨rfl, nd, hw4⟩
    rw [show eqB (packB P (l.map En.ed) d) (packB P (l.map En.ed) d) = true by simp [eqB]]
    have hk : Below w3.heap.size w3 w4 := by rw [hw4]; exact BdN (B0 w3) nd
    replace HG := Lib.hid (HG.out.later hk)
    replace HGQ := Lib.hid (HGQ.out.later hk)
    replace HP := Lib.hid (HP.out.below hk)
    replace HQ := Lib.hid (HQ.out.below hk)
    replace HB := Lib.hid (Bt HB.out hk)
    clear hk hw4
    obtain ⟨x0, x1, x2, x3, x4, x5, x6, x7, x8, x9, x10, x11, x12, x13⟩ := blk14 HG.out
    obtain ⟨z0, z1, z2, z3, z4, z5, z6, z7, z8, z9, z10, z11, z12, z13⟩ := blk14 HGQ.out
    go_wp2_with fail
    refine (same_any _ _ Q P l' l d d w4 HQ.out HP.out).mono ?_
    rw [smB_same HN.out HLE.out rfl]
    rintro e w5 ⟨rfl, hk⟩
    replace HB := Lib.hid (Bt HB.out hk)
    clear hk x0 x1 x2 x3 x4 x5 x6 x7 x8 x9 x10 x11 x12 x13 z0 z1 z2 z3 z4 z5 z6 z7 z8 z9 z10 z11 z12 z13
    go_wp2_with fail
    go_ret
    exact ⟨rfl, HB.out⟩
theorem postPacks_walk {H : Type} {enc : TypeId × Value → H} (W : World) {base : Nat} {sp : Nat → Bool} {held : Bool} {v : Value} {d : DataW H} {pl : List MemPlace} (hv : Value.okWide Try.prog W .any base 27 v) (ht : DataW.Trod enc Try.prog W 0 sp held 27 v d pl)
    (hz : ∀ n ∈ d.weights Try.prog 27, n ≤ reachBytes) :
    Calls Try.prog 8 #[v] W fun e w' => e = .returned (.bool true) ∧ Below W.heap.size W w' := by
  obtain ⟨p, l, bs, rfl, hp⟩ := open_post hv ht hz
  exact postPacks_at W _ p l bs hp.at_ (post_reach ht hz)
end Go.Proofs.Ytnphnaggamfoiaa
