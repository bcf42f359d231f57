/- The document's body of any kind; its Pack (printed by genv4.py). -/
import Derived.Test.YtnphnaggamfoiaaV3
namespace Go.Proofs.Ytnphnaggamfoiaa
open Go.RowKit
set_option maxRecDepth 20000
set_option linter.unusedVariables false
set_option linter.unusedSimpArgs false

theorem body_docs (B : Nat) (A : Option Addr) (c : Nat) (xs : List Int) (P : Po) (S : Nat → Prop) (l : List En) (d : List Int) (w : World) (hm : May P (l.map En.ed)) (hp : PoAt w S P l d) (hS : ∀ i, S i → i < B) (ho : w.ownsRow B 5 1 (.slice A xs.length c) xs.length (bts xs)) (hB : B ≤ w.heap.size) (hl : xs.length ≤ 1000) :
    Calls Try.prog 62 #[.slice A xs.length c, P.v] w (OutDid B (.slice A xs.length c) (xs ++ bodyB P (l.map En.ed) d) w) := by
  have hix := hm.ix; have hlt := hm.lt; have hco := hm.co; have hhi := hm.hi; have hte := hm.te; have hkd := hm.kd; have hsn := hm.snap0
  unfold bodyB
  by_cases k1 : P.kd = 1
  · rw [if_pos k1]
    exact body_doc1 B A c xs P w ho hB hl k1 hix ⟨hlt.1, by omega⟩
  · rw [if_neg k1]
    by_cases k2 : P.kd = 2
    · rw [if_pos k2]
      exact body_doc2 B A c xs P w ho hB hl k2
    · rw [if_neg k2]
      by_cases k3 : P.kd = 3
      · rw [if_pos k3]
        have hf := ents_facts P.te hte.2 (l.map En.ed) (P.ix + 1) P.lt hlt.1 hm.ents
        have h8 := hm.most
        rw [List.length_map] at h8 ⊢
        have hlen := hp.len
        have hr := hp.rd
        obtain ⟨kd, fr, tq, te, ix, lt, co, ok, hi, EA, en, ec, si, st, sc, SA, sn, sk⟩ := P
        simp only at *
        subst k3
        exact body_doc3 B A c xs S fr tq te ix lt co ok hi EA en ec si st sc SA sn sk l w ho hB hl hix ⟨hlt.1, by omega⟩ hco hhi (by omega) hlen hr hS hp.each (fun x hx => by
          obtain ⟨k, hk, rfl⟩ := List.getElem_of_mem hx
          have := hf k (by simpa using hk)
          simp only [List.getElem_map, En.ed] at this
          omega)
      · rw [if_neg k3]
        by_cases k4 : P.kd = 4
        · rw [if_pos k4]
          exact body_doc4 B A c xs P w ho hB hl k4 hix hhi
        · rw [if_neg k4]
          by_cases k5 : P.kd = 5
          · rw [if_pos k5]
            have := hp.dlen
            exact body_doc5 B A c xs P w ho hB hl k5 hhi (by omega) (by omega) (by omega) S d hp.dlen (by omega) hp.data hS
          · rw [if_neg k5]
            exact body_doc6 B A c xs P w ho hB hl (by omega) hix hhi
theorem refpack_bad (S : Nat → Prop) (P : Po) (l : List En) (d : List Int) (W : World) (hp : PoAt W S P l d) (hc : chkB P (l.map En.ed) = false) :
    Calls Try.prog 28 #[P.v] W fun e w' => e = .returned (.tuple #[.slice none 0 0, .int .i64 2]) ∧ Below W.heap.size W w' := by
  have HP := Lib.hid hp
  have HC := Lib.hid (chkE_no hc)
  clear hp hc
  go_enter Try.func28, Try.ntmps28
  go_wp2_with fail
  refine (refcheck_any S P l d _ (HP.out.below (Ba (B0 W) _))).mono ?_
  rw [HC.out]
  rintro e w1 ⟨rfl, hb⟩
  have HB := Lib.hid (Bt (Ba (B0 W) _) hb)
  clear hb
  go_wp2_with fail
  go_ret2
  exact ⟨rfl, HB.out⟩
set_option maxHeartbeats 4000000 in
theorem refpack_ok (S : Nat → Prop) (P : Po) (l : List En) (d : List Int) (W : World) (hp : PoAt W S P l d) (hc : chkB P (l.map En.ed) = true) :
    Calls Try.prog 28 #[P.v] W fun e w' => ∃ A c, e = .returned (.tuple #[.slice A (packB P (l.map En.ed) d).length c, .int .i64 0]) ∧ Fresh W w' A c (packB P (l.map En.ed) d) := by
  have hm0 := may_of hc
  have HMAY := Lib.hid hm0
  obtain ⟨kd, fr, tq, te, ix, lt, co, ok, hi, EA, en, ec, si, st, sc, SA, sn, sk⟩ := P
  have HP0 := Lib.hid hp
  have HC := Lib.hid (chkE_yes hc)
  have k1 : 0 ≤ kd ∧ kd ≤ 9007199254740991 := by have := hm0.kd; simp only at this; omega
  have k2 : 0 ≤ fr ∧ fr ≤ 9007199254740991 := by have := hm0.fr; simp only at this; omega
  have k3 : 0 ≤ tq ∧ tq ≤ 9007199254740991 := by have := hm0.tq; simp only at this; omega
  have k4 : 0 ≤ te ∧ te ≤ 9007199254740991 := hm0.te
  have hS := hp.lt
  have HS := Lib.hid hS
  clear hp hc hm0 hS
  go_enter Try.func28, Try.ntmps28
  go_wp2_with fail
  obtain ⟨wg, hwg⟩ : ∃ u, u = W.alloc (.cells (Po.cs ⟨kd, fr, tq, te, ix, lt, co, ok, hi, EA, en, ec, si, st, sc, SA, sn, sk⟩) 27) := ⟨_, rfl⟩
  have HG := Lib.hid (show Blk wg W.heap.size 27 (Po.cs ⟨kd, fr, tq, te, ix, lt, co, ok, hi, EA, en, ec, si, st, sc, SA, sn, sk⟩) by rw [hwg]; exact Blk.new _ _ _)
  have hk : Below W.heap.size W wg := by rw [hwg]; exact Ba (B0 W) _
  have HB := Lib.hid hk
  have HP := Lib.hid (HP0.out.below hk)
  rw [← hwg]
  clear hwg hk
  refine (refcheck_any S _ l d wg HP.out).mono ?_
  rw [HC.out]
  rintro e w0 ⟨rfl, hk⟩
  replace HG := Lib.hid (HG.out.later hk)
  replace HP := Lib.hid (HP.out.below hk)
  replace HB := Lib.hid (Bt HB.out hk)
  have HBW := Lib.hid HB.out.size
  have HO := Lib.hid (show w0.ownsRow W.heap.size 5 1 (.slice none ([] : List Int).length 0) ([] : List Int).length (bts []) from World.ownsRow_nil _ _ _ _)
  have HNG := Lib.hid (show ∀ i, (Value.slice none ([] : List Int).length 0).ownBlock = some i → i ≠ W.heap.size from fun i hi => by cases hi)
  have HW := Lib.hid (show ∀ i, (Value.slice none ([] : List Int).length 0).ownBlock = some i → W.heap.size ≤ i from fun i hi => by cases hi)
  have hl0 : ([] : List Int).length ≤ 0 := Nat.le_refl _
  clear hk
  obtain ⟨x0, x1, x2, x3, x4, x5, x6, x7, x8, x9, x10, x11, x12, x13⟩ := blk14 HG.out
  have lg := HG.out.lt
  have HNGo := HNG
  have HWo := HW
  go_wp2_with fail
  refine (put_doc W.heap.size none 0 [] kd 1 (.inl rfl) k1 (by omega) w0 HO.out HBW.out).mono ?_
  rintro e w1 ⟨A1, c1, rfl, ho, hm, hn⟩
  have hgl := HG.out.lt
  replace HNG := Lib.hid (fun i hi => (show i ≠ W.heap.size from (hn i hi).elim (fun h => HNG.out i h) (fun h => by omega)))
  have hs1 := HBW.out
  replace HW := Lib.hid (fun i hi => (show W.heap.size ≤ i from (hn i hi).elim (fun h => HW.out i h) (fun h => Nat.le_trans hs1 h)))
  replace HG := Lib.hid (HG.out.kept hm (fun h => HNGo.out _ h rfl))
  replace HP := Lib.hid (HP.out.kept hm (fun i hi h => by have := HWo.out i h; have := HS.out i hi; omega))
  replace HBW := Lib.hid (Nat.le_trans HBW.out hm.size)
  replace HB := Lib.hid (Bm HB.out hm (fun i hi => HWo.out i hi))
  obtain ⟨ys1, hys1⟩ : ∃ ys, ys = [] ++ Wr.be 1 kd := ⟨_, rfl⟩
  rw [← hys1] at ho HNG HW ⊢
  have hL1 : ys1.length = ([] : List Int).length + 1 := by rw [hys1, List.length_append]; simp [Wr.be_length, olay_length]
  replace HO := Lib.hid ho
  have HY1 := Lib.hid hys1
  have hl1 : ys1.length ≤ 10 := by omega
  clear ho hm hn hgl hs1 hys1 hL1 x0 x1 x2 x3 x4 x5 x6 x7 x8 x9 x10 x11 x12 x13 lg HNGo HWo
  obtain ⟨x0, x1, x2, x3, x4, x5, x6, x7, x8, x9, x10, x11, x12, x13⟩ := blk14 HG.out
  have lg := HG.out.lt
  have HNGo := HNG
  have HWo := HW
  go_wp2_with fail
  refine (put_doc W.heap.size A1 c1 ys1 fr 1 (.inl rfl) k2 (by omega) w1 HO.out HBW.out).mono ?_
  rintro e w2 ⟨A2, c2, rfl, ho, hm, hn⟩
  have hgl := HG.out.lt
  replace HNG := Lib.hid (fun i hi => (show i ≠ W.heap.size from (hn i hi).elim (fun h => HNG.out i h) (fun h => by omega)))
  have hs1 := HBW.out
  replace HW := Lib.hid (fun i hi => (show W.heap.size ≤ i from (hn i hi).elim (fun h => HW.out i h) (fun h => Nat.le_trans hs1 h)))
  replace HG := Lib.hid (HG.out.kept hm (fun h => HNGo.out _ h rfl))
  replace HP := Lib.hid (HP.out.kept hm (fun i hi h => by have := HWo.out i h; have := HS.out i hi; omega))
  replace HBW := Lib.hid (Nat.le_trans HBW.out hm.size)
  replace HB := Lib.hid (Bm HB.out hm (fun i hi => HWo.out i hi))
  obtain ⟨ys2, hys2⟩ : ∃ ys, ys = ys1 ++ Wr.be 1 fr := ⟨_, rfl⟩
  rw [← hys2] at ho HNG HW ⊢
  have hL2 : ys2.length = ys1.length + 1 := by rw [hys2, List.length_append]; simp [Wr.be_length, olay_length]
  replace HO := Lib.hid ho
  have HY2 := Lib.hid hys2
  have hl2 : ys2.length ≤ 20 := by omega
  clear ho hm hn hgl hs1 hys2 hL2 x0 x1 x2 x3 x4 x5 x6 x7 x8 x9 x10 x11 x12 x13 lg HNGo HWo
  obtain ⟨x0, x1, x2, x3, x4, x5, x6, x7, x8, x9, x10, x11, x12, x13⟩ := blk14 HG.out
  have lg := HG.out.lt
  have HNGo := HNG
  have HWo := HW
  go_wp2_with fail
  refine (put_doc W.heap.size A2 c2 ys2 tq 1 (.inl rfl) k3 (by omega) w2 HO.out HBW.out).mono ?_
  rintro e w3 ⟨A3, c3, rfl, ho, hm, hn⟩
  have hgl := HG.out.lt
  replace HNG := Lib.hid (fun i hi => (show i ≠ W.heap.size from (hn i hi).elim (fun h => HNG.out i h) (fun h => by omega)))
  have hs1 := HBW.out
  replace HW := Lib.hid (fun i hi => (show W.heap.size ≤ i from (hn i hi).elim (fun h => HW.out i h) (fun h => Nat.le_trans hs1 h)))
  replace HG := Lib.hid (HG.out.kept hm (fun h => HNGo.out _ h rfl))
  replace HP := Lib.hid (HP.out.kept hm (fun i hi h => by have := HWo.out i h; have := HS.out i hi; omega))
  replace HBW := Lib.hid (Nat.le_trans HBW.out hm.size)
  replace HB := Lib.hid (Bm HB.out hm (fun i hi => HWo.out i hi))
  obtain ⟨ys3, hys3⟩ : ∃ ys, ys = ys2 ++ Wr.be 1 tq := ⟨_, rfl⟩
  rw [← hys3] at ho HNG HW ⊢
  have hL3 : ys3.length = ys2.length + 1 := by rw [hys3, List.length_append]; simp [Wr.be_length, olay_length]
  replace HO := Lib.hid ho
  have HY3 := Lib.hid hys3
  have hl3 : ys3.length ≤ 30 := by omega
  clear ho hm hn hgl hs1 hys3 hL3 x0 x1 x2 x3 x4 x5 x6 x7 x8 x9 x10 x11 x12 x13 lg HNGo HWo
  obtain ⟨x0, x1, x2, x3, x4, x5, x6, x7, x8, x9, x10, x11, x12, x13⟩ := blk14 HG.out
  have lg := HG.out.lt
  have HNGo := HNG
  have HWo := HW
  go_wp2_with fail
  refine (put_doc W.heap.size A3 c3 ys3 te 7 (.inr (.inr rfl)) k4 (by omega) w3 HO.out HBW.out).mono ?_
  rintro e w4 ⟨A4, c4, rfl, ho, hm, hn⟩
  have hgl := HG.out.lt
  replace HNG := Lib.hid (fun i hi => (show i ≠ W.heap.size from (hn i hi).elim (fun h => HNG.out i h) (fun h => by omega)))
  have hs1 := HBW.out
  replace HW := Lib.hid (fun i hi => (show W.heap.size ≤ i from (hn i hi).elim (fun h => HW.out i h) (fun h => Nat.le_trans hs1 h)))
  replace HG := Lib.hid (HG.out.kept hm (fun h => HNGo.out _ h rfl))
  replace HP := Lib.hid (HP.out.kept hm (fun i hi h => by have := HWo.out i h; have := HS.out i hi; omega))
  replace HBW := Lib.hid (Nat.le_trans HBW.out hm.size)
  replace HB := Lib.hid (Bm HB.out hm (fun i hi => HWo.out i hi))
  obtain ⟨ys4, hys4⟩ : ∃ ys, ys = ys3 ++ Wr.be 7 te := ⟨_, rfl⟩
  rw [← hys4] at ho HNG HW ⊢
  have hL4 : ys4.length = ys3.length + 7 := by rw [hys4, List.length_append]; simp [Wr.be_length, olay_length]
  replace HO := Lib.hid ho
  have HY4 := Lib.hid hys4
  have hl4 : ys4.length ≤ 40 := by omega
  clear ho hm hn hgl hs1 hys4 hL4 x0 x1 x2 x3 x4 x5 x6 x7 x8 x9 x10 x11 x12 x13 lg HNGo HWo
  obtain ⟨x0, x1, x2, x3, x4, x5, x6, x7, x8, x9, x10, x11, x12, x13⟩ := blk14 HG.out
  have lg := HG.out.lt
  have HNGo := HNG
  have HWo := HW
  go_wp2_with fail
  refine (body_docs W.heap.size A4 c4 ys4 ⟨kd, fr, tq, te, ix, lt, co, ok, hi, EA, en, ec, si, st, sc, SA, sn, sk⟩ S l d w4 HMAY.out HP.out HS.out HO.out HBW.out (by omega)).mono ?_
  rintro e w5 ⟨A5, c5, rfl, ho, hm, hn⟩
  replace HB := Lib.hid (Bm HB.out hm (fun i hi => HWo.out i hi))
  have hfin : ys4 ++ bodyB ⟨kd, fr, tq, te, ix, lt, co, ok, hi, EA, en, ec, si, st, sc, SA, sn, sk⟩ (l.map En.ed) d = packB ⟨kd, fr, tq, te, ix, lt, co, ok, hi, EA, en, ec, si, st, sc, SA, sn, sk⟩ (l.map En.ed) d := by
    rw [HY4.out, HY3.out, HY2.out, HY1.out]
    simp [packB]
  rw [hfin] at ho ⊢
  have HO5 := Lib.hid ho
  clear ho hm hn x0 x1 x2 x3 x4 x5 x6 x7 x8 x9 x10 x11 x12 x13 lg hfin
  go_wp2_with fail
  go_ret2
  exact ⟨A5, c5, rfl, HO5.out, HB.out⟩
end Go.Proofs.Ytnphnaggamfoiaa
