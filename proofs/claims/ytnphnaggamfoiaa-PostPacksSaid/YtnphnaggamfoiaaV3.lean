/- The document's body of a message with entries. -/
import Derived.Test.YtnphnaggamfoiaaV2
namespace Go.Proofs.Ytnphnaggamfoiaa
open Go.RowKit
set_option maxRecDepth 20000
set_option linter.unusedVariables false
set_option linter.unusedSimpArgs false

theorem ents_len (l : List Ed) (h : ∀ x ∈ l, x.bs.length ≤ 1200) : (l.flatMap entBy).length ≤ 1300 * l.length := by
  induction l with
  | nil => simp
  | cons x l ih =>
    have h1 := h x (by simp)
    have h2 := ih (fun y hy => h y (List.mem_cons_of_mem x hy))
    rw [List.flatMap_cons, List.length_append, List.length_cons]
    have h3 : (entBy x).length ≤ 1300 := by simp [entBy, Wr.be_length, olay_length]; omega
    omega
set_option maxHeartbeats 4000000 in
theorem body_doc3 (B : Nat) (A : Option Addr) (c : Nat) (xs : List Int) (S : Nat → Prop) (fr tq te ix lt co : Int) (ok : Bool) (hi : Int) (EA : Option Addr) (en ec : Nat) (si st sc : Int) (SA : Option Addr) (sn sk : Nat) (l : List En) (w : World) (ho : w.ownsRow B 5 1 (.slice A xs.length c) xs.length (bts xs)) (hB : B ≤ w.heap.size) (hl : xs.length ≤ 1000)
    (h1 : 0 ≤ ix ∧ ix ≤ 9007199254740991) (h2 : 0 ≤ lt ∧ lt ≤ 9007199254740991) (h3 : 0 ≤ co ∧ co ≤ 9007199254740991) (h4 : 0 ≤ hi ∧ hi ≤ 9007199254740991) (hen : en ≤ 8) (hle : l.length = en)
    (hr : Rd w S 4 (.slice EA en ec) en (rowE l)) (hS : ∀ i, S i → i < B) (hx : ∀ x ∈ l, x.ok w S) (hb : ∀ x ∈ l, (0 ≤ x.te ∧ x.te ≤ 9007199254740991) ∧ (0 ≤ x.ki ∧ x.ki ≤ 9007199254740991) ∧ x.bs.length ≤ 1200) :
    Calls Try.prog 62 #[.slice A xs.length c, Po.v ⟨3, fr, tq, te, ix, lt, co, ok, hi, EA, en, ec, si, st, sc, SA, sn, sk⟩] w (OutDid B (.slice A xs.length c) (xs ++ (be7 [ix, lt, co, hi] ++ (Wr.be 1 l.length ++ (l.map En.ed).flatMap entBy))) w) := by
  have HO0 := Lib.hid ho
  have HNG0 := Lib.hid (show ∀ i, (Value.slice A xs.length c).ownBlock = some i → i < w.heap.size from own_lt ho)
  have HR0 := Lib.hid hr
  have HX0 := Lib.hid hx
  have HS := Lib.hid hS
  have HLE := Lib.hid hle
  have HBD := Lib.hid hb
  have hen8 : (en : Int) ≤ 8 := by omega
  have hcap := hr.cap
  unfold maxLen at hcap
  obtain ⟨_, hc1, hc2⟩ := hcap
  clear ho hr hx hS hle hb
  go_enter Try.func62, Try.ntmps62
  go_wp2_with fail
  obtain ⟨wg, hwg⟩ : ∃ u, u = w.alloc (.cells (Po.cs ⟨3, fr, tq, te, ix, lt, co, ok, hi, EA, en, ec, si, st, sc, SA, sn, sk⟩) 27) := ⟨_, rfl⟩
  have HG := Lib.hid (show Blk wg w.heap.size 27 (Po.cs ⟨3, fr, tq, te, ix, lt, co, ok, hi, EA, en, ec, si, st, sc, SA, sn, sk⟩) by rw [hwg]; exact Blk.new _ _ _)
  have hm : Mod (fun i => (Value.slice A xs.length c).ownBlock = some i) w wg := by rw [hwg]; exact (Mod.refl _ w).alloc _
  have HO := Lib.hid (show wg.ownsRow B 5 1 (.slice A xs.length c) xs.length (bts xs) by rw [hwg]; exact HO0.out.alloc _)
  have HM := Lib.hid hm
  have HNG := Lib.hid (show ∀ i, (Value.slice A xs.length c).ownBlock = some i → i ≠ w.heap.size from fun i hi => by have := HNG0.out i hi; omega)
  have HW := Lib.hid (show ∀ i, (Value.slice A xs.length c).ownBlock = some i → (Value.slice A xs.length c).ownBlock = some i ∨ w.heap.size ≤ i from fun i hi => .inl hi)
  have HBW := Lib.hid (show B ≤ wg.heap.size from Nat.le_trans hB hm.size)
  have hlz : xs.length ≤ 1000 + 0 := hl
  rw [← hwg]
  clear hwg hm
  obtain ⟨x0, x1, x2, x3, x4, x5, x6, x7, x8, x9, x10, x11, x12, x13⟩ := blk14 HG.out
  have lg := HG.out.lt
  have HNGo := HNG
  have HWo := HW
  go_wp2_with fail
  refine (put_doc B A c xs ix 7 (.inr (.inr rfl)) h1 (by omega) wg HO.out HBW.out).mono ?_
  rintro e w1 ⟨A1, c1, rfl, ho, hm, hn⟩
  have hgl := HG.out.lt
  replace HNG := Lib.hid (fun i hi => (show i ≠ w.heap.size from (hn i hi).elim (fun h => HNG.out i h) (fun h => by omega)))
  have hs1 := HM.out.size
  replace HW := Lib.hid (fun i hi => (show (Value.slice A xs.length c).ownBlock = some i ∨ w.heap.size ≤ i from (hn i hi).elim (fun h => HW.out i h) (fun h => .inr (Nat.le_trans hs1 h))))
  replace HG := Lib.hid (HG.out.kept hm (fun h => HNGo.out _ h rfl))
  replace HBW := Lib.hid (Nat.le_trans HBW.out hm.size)
  replace HM := Lib.hid (HM.out.trans hm (fun i hi => HWo.out i hi))
  obtain ⟨ys1, hys1⟩ : ∃ ys, ys = xs ++ Wr.be 7 ix := ⟨_, rfl⟩
  rw [← hys1] at ho HNG HW ⊢
  have hL1 : ys1.length = xs.length + 7 := by rw [hys1, List.length_append]; simp [Wr.be_length, olay_length]
  replace HO := Lib.hid ho
  have HY1 := Lib.hid hys1
  have hl1 : ys1.length ≤ 1010 := by omega
  clear ho hm hn hgl hs1 hys1 hL1 x0 x1 x2 x3 x4 x5 x6 x7 x8 x9 x10 x11 x12 x13 lg HNGo HWo
  obtain ⟨x0, x1, x2, x3, x4, x5, x6, x7, x8, x9, x10, x11, x12, x13⟩ := blk14 HG.out
  have lg := HG.out.lt
  have HNGo := HNG
  have HWo := HW
  go_wp2_with fail
  refine (put_doc B A1 c1 ys1 lt 7 (.inr (.inr rfl)) h2 (by omega) w1 HO.out HBW.out).mono ?_
  rintro e w2 ⟨A2, c2, rfl, ho, hm, hn⟩
  have hgl := HG.out.lt
  replace HNG := Lib.hid (fun i hi => (show i ≠ w.heap.size from (hn i hi).elim (fun h => HNG.out i h) (fun h => by omega)))
  have hs1 := HM.out.size
  replace HW := Lib.hid (fun i hi => (show (Value.slice A xs.length c).ownBlock = some i ∨ w.heap.size ≤ i from (hn i hi).elim (fun h => HW.out i h) (fun h => .inr (Nat.le_trans hs1 h))))
  replace HG := Lib.hid (HG.out.kept hm (fun h => HNGo.out _ h rfl))
  replace HBW := Lib.hid (Nat.le_trans HBW.out hm.size)
  replace HM := Lib.hid (HM.out.trans hm (fun i hi => HWo.out i hi))
  obtain ⟨ys2, hys2⟩ : ∃ ys, ys = ys1 ++ Wr.be 7 lt := ⟨_, rfl⟩
  rw [← hys2] at ho HNG HW ⊢
  have hL2 : ys2.length = ys1.length + 7 := by rw [hys2, List.length_append]; simp [Wr.be_length, olay_length]
  replace HO := Lib.hid ho
  have HY2 := Lib.hid hys2
  have hl2 : ys2.length ≤ 1020 := by omega
  clear ho hm hn hgl hs1 hys2 hL2 x0 x1 x2 x3 x4 x5 x6 x7 x8 x9 x10 x11 x12 x13 lg HNGo HWo
  obtain ⟨x0, x1, x2, x3, x4, x5, x6, x7, x8, x9, x10, x11, x12, x13⟩ := blk14 HG.out
  have lg := HG.out.lt
  have HNGo := HNG
  have HWo := HW
  go_wp2_with fail
  refine (put_doc B A2 c2 ys2 co 7 (.inr (.inr rfl)) h3 (by omega) w2 HO.out HBW.out).mono ?_
  rintro e w3 ⟨A3, c3, rfl, ho, hm, hn⟩
  have hgl := HG.out.lt
  replace HNG := Lib.hid (fun i hi => (show i ≠ w.heap.size from (hn i hi).elim (fun h => HNG.out i h) (fun h => by omega)))
  have hs1 := HM.out.size
  replace HW := Lib.hid (fun i hi => (show (Value.slice A xs.length c).ownBlock = some i ∨ w.heap.size ≤ i from (hn i hi).elim (fun h => HW.out i h) (fun h => .inr (Nat.le_trans hs1 h))))
  replace HG := Lib.hid (HG.out.kept hm (fun h => HNGo.out _ h rfl))
  replace HBW := Lib.hid (Nat.le_trans HBW.out hm.size)
  replace HM := Lib.hid (HM.out.trans hm (fun i hi => HWo.out i hi))
  obtain ⟨ys3, hys3⟩ : ∃ ys, ys = ys2 ++ Wr.be 7 co := ⟨_, rfl⟩
  rw [← hys3] at ho HNG HW ⊢
  have hL3 : ys3.length = ys2.length + 7 := by rw [hys3, List.length_append]; simp [Wr.be_length, olay_length]
  replace HO := Lib.hid ho
  have HY3 := Lib.hid hys3
  have hl3 : ys3.length ≤ 1030 := by omega
  clear ho hm hn hgl hs1 hys3 hL3 x0 x1 x2 x3 x4 x5 x6 x7 x8 x9 x10 x11 x12 x13 lg HNGo HWo
  obtain ⟨x0, x1, x2, x3, x4, x5, x6, x7, x8, x9, x10, x11, x12, x13⟩ := blk14 HG.out
  have lg := HG.out.lt
  have HNGo := HNG
  have HWo := HW
  go_wp2_with fail
  refine (put_doc B A3 c3 ys3 hi 7 (.inr (.inr rfl)) h4 (by omega) w3 HO.out HBW.out).mono ?_
  rintro e w4 ⟨A4, c4, rfl, ho, hm, hn⟩
  have hgl := HG.out.lt
  replace HNG := Lib.hid (fun i hi => (show i ≠ w.heap.size from (hn i hi).elim (fun h => HNG.out i h) (fun h => by omega)))
  have hs1 := HM.out.size
  replace HW := Lib.hid (fun i hi => (show (Value.slice A xs.length c).ownBlock = some i ∨ w.heap.size ≤ i from (hn i hi).elim (fun h => HW.out i h) (fun h => .inr (Nat.le_trans hs1 h))))
  replace HG := Lib.hid (HG.out.kept hm (fun h => HNGo.out _ h rfl))
  replace HBW := Lib.hid (Nat.le_trans HBW.out hm.size)
  replace HM := Lib.hid (HM.out.trans hm (fun i hi => HWo.out i hi))
  obtain ⟨ys4, hys4⟩ : ∃ ys, ys = ys3 ++ Wr.be 7 hi := ⟨_, rfl⟩
  rw [← hys4] at ho HNG HW ⊢
  have hL4 : ys4.length = ys3.length + 7 := by rw [hys4, List.length_append]; simp [Wr.be_length, olay_length]
  replace HO := Lib.hid ho
  have HY4 := Lib.hid hys4
  have hl4 : ys4.length ≤ 1040 := by omega
  clear ho hm hn hgl hs1 hys4 hL4 x0 x1 x2 x3 x4 x5 x6 x7 x8 x9 x10 x11 x12 x13 lg HNGo HWo
  obtain ⟨x0, x1, x2, x3, x4, x5, x6, x7, x8, x9, x10, x11, x12, x13⟩ := blk14 HG.out
  have lg := HG.out.lt
  have HNGo := HNG
  have HWo := HW
  go_wp2_with fail
  refine (put_doc B A4 c4 ys4 (en : Int) 1 (.inl rfl) ⟨by omega, by omega⟩ (by omega) w4 HO.out HBW.out).mono ?_
  rintro e w5 ⟨A5, c5, rfl, ho, hm, hn⟩
  have hgl := HG.out.lt
  replace HNG := Lib.hid (fun i hi => (show i ≠ w.heap.size from (hn i hi).elim (fun h => HNG.out i h) (fun h => by omega)))
  have hs1 := HM.out.size
  replace HW := Lib.hid (fun i hi => (show (Value.slice A xs.length c).ownBlock = some i ∨ w.heap.size ≤ i from (hn i hi).elim (fun h => HW.out i h) (fun h => .inr (Nat.le_trans hs1 h))))
  replace HG := Lib.hid (HG.out.kept hm (fun h => HNGo.out _ h rfl))
  replace HBW := Lib.hid (Nat.le_trans HBW.out hm.size)
  replace HM := Lib.hid (HM.out.trans hm (fun i hi => HWo.out i hi))
  obtain ⟨ys5, hys5⟩ : ∃ ys, ys = ys4 ++ Wr.be 1 (en : Int) := ⟨_, rfl⟩
  rw [← hys5] at ho HNG HW ⊢
  have hL5 : ys5.length = ys4.length + 1 := by rw [hys5, List.length_append]; simp [Wr.be_length, olay_length]
  replace HO := Lib.hid ho
  have HY5 := Lib.hid hys5
  have hl5 : ys5.length ≤ 1050 := by omega
  clear ho hm hn hgl hs1 hys5 hL5 x0 x1 x2 x3 x4 x5 x6 x7 x8 x9 x10 x11 x12 x13 lg HNGo HWo
  obtain ⟨x0, x1, x2, x3, x4, x5, x6, x7, x8, x9, x10, x11, x12, x13⟩ := blk14 HG.out
  have lg := HG.out.lt
  go_wp2_with fail
  go_loopw [0, 5] (fun o i wr => ∃ (k : Nat) (A' : Option Addr) (c' : Nat) (zs : List Int), k ≤ en ∧ i = .int .i64 k ∧ o = .slice A' zs.length c' ∧ zs = ys5 ++ ((l.map En.ed).take k).flatMap entBy ∧ wr.ownsRow B 5 1 (.slice A' zs.length c') zs.length (bts zs) ∧ Mod (fun i => (Value.slice A xs.length c).ownBlock = some i) w wr ∧ (∀ i, (Value.slice A' zs.length c').ownBlock = some i → (Value.slice A xs.length c).ownBlock = some i ∨ w.heap.size ≤ i) ∧ (∀ i, (Value.slice A' zs.length c').ownBlock = some i → i ≠ w.heap.size) ∧ Blk wr w.heap.size 27 (Po.cs ⟨3, fr, tq, te, ix, lt, co, ok, hi, EA, en, ec, si, st, sc, SA, sn, sk⟩) ∧ B ≤ wr.heap.size) (fun _ i _ => en - (intOf i).toNat)
  case atStart => exact ⟨0, A5, c5, ys5, Nat.zero_le _, rfl, rfl, by simp, HO.out, HM.out, HW.out, HNG.out, HG.out, HBW.out⟩
  case round =>
    clear x0 x1 x2 x3 x4 x5 x6 x7 x8 x9 x10 x11 x12 x13 lg
    obtain ⟨k, A', c', zs, hk, rfl, rfl, hz, ho, hm, hw, hng, hg, hbw⟩ := hrel
    obtain ⟨wv, rfl⟩ : ∃ wv, wv = wr := ⟨_, rfl⟩
    replace HO := Lib.hid ho
    replace HM := Lib.hid hm
    replace HW := Lib.hid hw
    replace HNG := Lib.hid hng
    replace HG := Lib.hid hg
    replace HBW := Lib.hid hbw
    have HZ := Lib.hid hz
    clear ho hm hw hng hg hbw hz
    obtain ⟨x0, x1, x2, x3, x4, x5, x6, x7, x8, x9, x10, x11, x12, x13⟩ := blk14 HG.out
    have lg := HG.out.lt
    by_cases hlt : k < en
    · have hi1 : (k : Int) < (en : Int) := by omega
      have hk0 : (0 : Int) ≤ (k : Int) := by omega
      have hkl : k < l.length := by have := HLE.out; omega
      have hown : ∀ i, S i → ¬ (Value.slice A xs.length c).ownBlock = some i := fun i hi h => by have := own_ge HO0.out i h; have := HS.out i hi; omega
      have hRv := HR0.out.kept HM.out hown
      obtain ⟨g, og, hA, hg, hc⟩ := rd_ents hRv HLE.out hlt
      subst hA
      have hxk := (HX0.out _ (List.getElem_mem hkl)).1.kept HM.out hown
      have hbk := HBD.out _ (List.getElem_mem hkl)
      have htk : ((l.map En.ed).take (k + 1)).flatMap entBy = ((l.map En.ed).take k).flatMap entBy ++ entBy (l[k]).ed := by
        rw [List.take_add_one, List.getElem?_eq_getElem (by simpa using hkl)]
        simp
      have hzl : zs.length ≤ 20000 := by
        have h1 := ents_len ((l.map En.ed).take k) (fun x hx => by
          obtain ⟨y, hy, rfl⟩ := List.mem_map.1 (List.mem_of_mem_take hx)
          exact (HBD.out y hy).2.2)
        have h2 : ((l.map En.ed).take k).length ≤ 8 := by simp; omega
        rw [HZ.out, List.length_append]
        omega
      obtain ⟨x, hx⟩ : ∃ x, x = l[k] := ⟨_, rfl⟩
      rw [← hx] at hc hxk hbk htk
      obtain ⟨xte, xix, xki, xA, xc, xbs⟩ := x
      have d0 := hc 0 _ (by omega) rfl
      have d1 := hc 1 _ (by omega) rfl
      have d2 := hc 2 _ (by omega) rfl
      have d3 := hc 3 _ (by omega) rfl
      simp only [Nat.add_zero] at d0
      have HTK := Lib.hid htk
      have HXK := Lib.hid hxk
      obtain ⟨hb1, hb2, hb3⟩ := hbk
      simp only at hb1 hb2 hb3
      clear hRv hc hxk htk hx
      go_wp2_with fail
      obtain ⟨wb, hwb⟩ : ∃ u, u = wv.alloc (.cells #[.int .i64 xte, .int .i64 xix, .int .i64 xki, .slice xA xbs.length xc] 46) := ⟨_, rfl⟩
      have HE := Lib.hid (show Blk wb wv.heap.size 46 #[.int .i64 xte, .int .i64 xix, .int .i64 xki, .slice xA xbs.length xc] by rw [hwb]; exact Blk.new _ _ _)
      have hmb : Mod (fun i => (Value.slice A xs.length c).ownBlock = some i) wv wb := by rw [hwb]; exact (Mod.refl _ wv).alloc _
      have HNE := Lib.hid (show ∀ i, (Value.slice A' zs.length c').ownBlock = some i → i ≠ wv.heap.size from fun i hi => by have := own_lt HO.out i hi; omega)
      replace HO := Lib.hid (show wb.ownsRow B 5 1 (.slice A' zs.length c') zs.length (bts zs) by rw [hwb]; exact HO.out.alloc _)
      replace HG := Lib.hid (show Blk wb w.heap.size _ _ by rw [hwb]; exact HG.out.alloc _)
      replace HBW := Lib.hid (Nat.le_trans HBW.out hmb.size)
      replace HXK := Lib.hid (HXK.out.kept hmb hown)
      replace HM := Lib.hid (show Mod (fun i => (Value.slice A xs.length c).ownBlock = some i) w wb by rw [hwb]; exact HM.out.alloc _)
      have hwl : wv.heap.size < wb.heap.size := by rw [hwb]; simp
      rw [← hwb]
      clear hwb hmb x0 x1 x2 x3 x4 x5 x6 x7 x8 x9 x10 x11 x12 x13 lg d0 d1 d2 d3
      have HNGo := HNG
      have HWo := HW
      have HNEo := HNE
      refine (put_doc B A' c' zs xte 7 (.inr (.inr rfl)) hb1 (by omega) wb HO.out HBW.out).mono ?_
      rintro e w6 ⟨A6, c6, rfl, ho, hm, hn⟩
      have hgl := HG.out.lt
      have hel := HE.out.lt
      replace HNG := Lib.hid (fun i hi => (show i ≠ w.heap.size from (hn i hi).elim (fun h => HNG.out i h) (fun h => by omega)))
      replace HNE := Lib.hid (fun i hi => (show i ≠ wv.heap.size from (hn i hi).elim (fun h => HNE.out i h) (fun h => by omega)))
      have hs1 := HM.out.size
      replace HW := Lib.hid (fun i hi => (show (Value.slice A xs.length c).ownBlock = some i ∨ w.heap.size ≤ i from (hn i hi).elim (fun h => HW.out i h) (fun h => .inr (Nat.le_trans hs1 h))))
      replace HG := Lib.hid (HG.out.kept hm (fun h => HNGo.out _ h rfl))
      replace HE := Lib.hid (HE.out.kept hm (fun h => HNEo.out _ h rfl))
      replace HBW := Lib.hid (Nat.le_trans HBW.out hm.size)
      replace HXK := Lib.hid (HXK.out.kept hm (fun i hi h => by have := own_ge HO.out i h; have := HS.out i hi; omega))
      replace HM := Lib.hid (HM.out.trans hm (fun i hi => HWo.out i hi))
      obtain ⟨ys6, hys6⟩ : ∃ ys, ys = zs ++ Wr.be 7 xte := ⟨_, rfl⟩
      rw [← hys6] at ho HNG HNE HW ⊢
      replace HO := Lib.hid ho
      have HY6 := Lib.hid hys6
      have hl6 : ys6.length ≤ 22000 := by rw [hys6, List.length_append]; simp [Wr.be_length, olay_length]; omega
      clear ho hm hn hgl hel hs1 hys6 HNGo HWo HNEo
      have y0 : w6.cell? ⟨wv.heap.size, 0, none⟩ = some (.int .i64 xte) := HE.out.cell 0
      have y2 : w6.cell? ⟨wv.heap.size, 2, none⟩ = some (.int .i64 xki) := HE.out.cell 2
      have y3 : w6.cell? ⟨wv.heap.size, 3, none⟩ = some (.slice xA xbs.length xc) := HE.out.cell 3
      go_wp2_with fail
      have HNGo := HNG
      have HWo := HW
      have HNEo := HNE
      refine (put_doc B A6 c6 ys6 xki 1 (.inl rfl) hb2 (by omega) w6 HO.out HBW.out).mono ?_
      rintro e w7 ⟨A7, c7, rfl, ho, hm, hn⟩
      have hgl := HG.out.lt
      have hel := HE.out.lt
      replace HNG := Lib.hid (fun i hi => (show i ≠ w.heap.size from (hn i hi).elim (fun h => HNG.out i h) (fun h => by omega)))
      replace HNE := Lib.hid (fun i hi => (show i ≠ wv.heap.size from (hn i hi).elim (fun h => HNE.out i h) (fun h => by omega)))
      have hs1 := HM.out.size
      replace HW := Lib.hid (fun i hi => (show (Value.slice A xs.length c).ownBlock = some i ∨ w.heap.size ≤ i from (hn i hi).elim (fun h => HW.out i h) (fun h => .inr (Nat.le_trans hs1 h))))
      replace HG := Lib.hid (HG.out.kept hm (fun h => HNGo.out _ h rfl))
      replace HE := Lib.hid (HE.out.kept hm (fun h => HNEo.out _ h rfl))
      replace HBW := Lib.hid (Nat.le_trans HBW.out hm.size)
      replace HXK := Lib.hid (HXK.out.kept hm (fun i hi h => by have := own_ge HO.out i h; have := HS.out i hi; omega))
      replace HM := Lib.hid (HM.out.trans hm (fun i hi => HWo.out i hi))
      obtain ⟨ys7, hys7⟩ : ∃ ys, ys = ys6 ++ Wr.be 1 xki := ⟨_, rfl⟩
      rw [← hys7] at ho HNG HNE HW ⊢
      replace HO := Lib.hid ho
      have HY7 := Lib.hid hys7
      have hl7 : ys7.length ≤ 24000 := by rw [hys7, List.length_append]; simp [Wr.be_length, olay_length]; omega
      clear ho hm hn hgl hel hs1 hys7 HNGo HWo HNEo
      have y0 : w7.cell? ⟨wv.heap.size, 0, none⟩ = some (.int .i64 xte) := HE.out.cell 0
      have y2 : w7.cell? ⟨wv.heap.size, 2, none⟩ = some (.int .i64 xki) := HE.out.cell 2
      have y3 : w7.cell? ⟨wv.heap.size, 3, none⟩ = some (.slice xA xbs.length xc) := HE.out.cell 3
      go_wp2_with fail
      have HNGo := HNG
      have HWo := HW
      have HNEo := HNE
      refine (octets_doc B S A7 xA c7 xc ys7 xbs (by omega) (by omega) w7 HO.out HBW.out HXK.out HS.out).mono ?_
      rintro e w8 ⟨A8, c8, rfl, ho, hm, hn⟩
      have hgl := HG.out.lt
      have hel := HE.out.lt
      replace HNG := Lib.hid (fun i hi => (show i ≠ w.heap.size from (hn i hi).elim (fun h => HNG.out i h) (fun h => by omega)))
      replace HNE := Lib.hid (fun i hi => (show i ≠ wv.heap.size from (hn i hi).elim (fun h => HNE.out i h) (fun h => by omega)))
      have hs1 := HM.out.size
      replace HW := Lib.hid (fun i hi => (show (Value.slice A xs.length c).ownBlock = some i ∨ w.heap.size ≤ i from (hn i hi).elim (fun h => HW.out i h) (fun h => .inr (Nat.le_trans hs1 h))))
      replace HG := Lib.hid (HG.out.kept hm (fun h => HNGo.out _ h rfl))
      replace HE := Lib.hid (HE.out.kept hm (fun h => HNEo.out _ h rfl))
      replace HBW := Lib.hid (Nat.le_trans HBW.out hm.size)
      replace HM := Lib.hid (HM.out.trans hm (fun i hi => HWo.out i hi))
      obtain ⟨ys8, hys8⟩ : ∃ ys, ys = ys7 ++ olay xbs := ⟨_, rfl⟩
      rw [← hys8] at ho HNG HNE HW ⊢
      replace HO := Lib.hid ho
      have HY8 := Lib.hid hys8
      have hl8 : ys8.length ≤ 26000 := by rw [hys8, List.length_append]; simp [Wr.be_length, olay_length]; omega
      clear ho hm hn hgl hel hs1 hys8 HNGo HWo HNEo
      go_wp2_with fail
      go_roundw
      case rel => exact ⟨k + 1, A8, c8, ys8, by omega, by go_num, rfl, by rw [HY8.out, HY7.out, HY6.out, HZ.out, HTK.out]; simp [entBy, En.ed], HO.out, HM.out, HW.out, HNG.out, HG.out, HBW.out⟩
      case measure => simp [intOf]; omega
    · have hke : k = en := by omega
      subst hke
      go_wp2_with fail
      go_ret
      have hfin : zs = xs ++ (be7 [ix, lt, co, hi] ++ (Wr.be 1 l.length ++ (l.map En.ed).flatMap entBy)) := by
        rw [HZ.out, HY5.out, HY4.out, HY3.out, HY2.out, HY1.out, List.take_of_length_le (by have := HLE.out; simp; omega), HLE.out]
        simp [be7]
      rw [← hfin]
      exact ⟨A', c', rfl, HO.out, HM.out, HW.out⟩
end Go.Proofs.Ytnphnaggamfoiaa
