/- The document's body: of what a kind has (printed by genv2.py). -/
import Derived.Test.YtnphnaggamfoiaaV1
import Derived.Test.YtnphnaggamfoiaaE8
namespace Go.Proofs.Ytnphnaggamfoiaa
open Go.RowKit
set_option maxRecDepth 20000
set_option linter.unusedVariables false
set_option linter.unusedSimpArgs false

theorem be7_one (a : Int) : be7 [a] = Wr.be 7 a := by simp [be7]
theorem okB_be (b : Bool) : Wr.be 1 (if b then 1 else 0) = okB b := by cases b <;> rfl

set_option maxHeartbeats 4000000 in
theorem body_doc1 (B : Nat) (A : Option Addr) (c : Nat) (xs : List Int) (P : Po)  (w : World) (ho : w.ownsRow B 5 1 (.slice A xs.length c) xs.length (bts xs)) (hB : B ≤ w.heap.size) (hl : xs.length ≤ 1000) (hk : P.kd = 1) (h1 : 0 ≤ P.ix ∧ P.ix ≤ 9007199254740991) (h2 : 0 ≤ P.lt ∧ P.lt ≤ 9007199254740991) :
    Calls Try.prog 62 #[.slice A xs.length c, P.v] w (OutDid B (.slice A xs.length c) (xs ++ be7 [P.ix, P.lt]) w) := by
  obtain ⟨kd, fr, tq, te, ix, lt, co, ok, hi, EA, en, ec, si, st, sc, SA, sn, sk⟩ := P
  simp only at hk
  subst hk
  have HO0 := Lib.hid ho
  have HNG0 := Lib.hid (show ∀ i, (Value.slice A xs.length c).ownBlock = some i → i < w.heap.size from own_lt ho)
  clear ho
  go_enter Try.func62, Try.ntmps62
  go_wp2_with fail
  obtain ⟨wg, hwg⟩ : ∃ u, u = w.alloc (.cells (Po.cs ⟨1, fr, tq, te, ix, lt, co, ok, hi, EA, en, ec, si, st, sc, SA, sn, sk⟩) 27) := ⟨_, rfl⟩
  have HG := Lib.hid (show Blk wg w.heap.size 27 (Po.cs ⟨1, fr, tq, te, ix, lt, co, ok, hi, EA, en, ec, si, st, sc, SA, sn, sk⟩) by rw [hwg]; exact Blk.new _ _ _)
  have hm : Mod (fun i => (Value.slice A xs.length c).ownBlock = some i) w wg := by rw [hwg]; exact (Mod.refl _ w).alloc _
  have HO := Lib.hid (show wg.ownsRow B 5 1 (.slice A xs.length c) xs.length (bts xs) by rw [hwg]; exact HO0.out.alloc _)
  have HM := Lib.hid hm
  have HNG := Lib.hid (show ∀ i, (Value.slice A xs.length c).ownBlock = some i → i ≠ w.heap.size from fun i hi => by have := HNG0.out i hi; omega)
  have HW := Lib.hid (show ∀ i, (Value.slice A xs.length c).ownBlock = some i → (Value.slice A xs.length c).ownBlock = some i ∨ w.heap.size ≤ i from fun i hi => .inl hi)
  have HBW := Lib.hid (show B ≤ wg.heap.size from Nat.le_trans hB hm.size)
  have hlz : xs.length ≤ 1000 + 0 := hl
  rw [← hwg]
  clear hwg hm
  obtain ⟨x0, x1, x2, x3, x4, x5, x6, x7, x8, x9, x10, x11, x12, x13⟩ := blk14 HG.out
  have lg := HG.out.lt
  have HNGo := HNG
  have HWo := HW
  go_wp2_with fail
  refine (put_doc B A c xs ix 7 (.inr (.inr rfl)) h1 (by omega) wg HO.out HBW.out).mono ?_
  rintro e w1 ⟨A1, c1, rfl, ho, hm, hn⟩
  have hgl := HG.out.lt
  replace HNG := Lib.hid (fun i hi => (show i ≠ w.heap.size from (hn i hi).elim (fun h => HNG.out i h) (fun h => by omega)))
  have hs1 := HM.out.size
  replace HW := Lib.hid (fun i hi => (show (Value.slice A xs.length c).ownBlock = some i ∨ w.heap.size ≤ i from (hn i hi).elim (fun h => HW.out i h) (fun h => .inr (Nat.le_trans hs1 h))))
  replace HG := Lib.hid (HG.out.kept hm (fun h => HNGo.out _ h rfl))
  replace HBW := Lib.hid (Nat.le_trans HBW.out hm.size)
  replace HM := Lib.hid (HM.out.trans hm (fun i hi => HWo.out i hi))
  obtain ⟨ys1, hys1⟩ : ∃ ys, ys = xs ++ Wr.be 7 ix := ⟨_, rfl⟩
  rw [← hys1] at ho HNG HW ⊢
  have hL1 : ys1.length = xs.length + 7 := by rw [hys1, List.length_append]; simp [Wr.be_length, olay_length]
  replace HO := Lib.hid ho
  have HY1 := Lib.hid hys1
  have HL1 := Lib.hid hL1
  have hl1 : ys1.length ≤ 1010 := by omega
  clear ho hm hn hgl hs1 hys1 hL1 x0 x1 x2 x3 x4 x5 x6 x7 x8 x9 x10 x11 x12 x13 lg HNGo HWo
  obtain ⟨x0, x1, x2, x3, x4, x5, x6, x7, x8, x9, x10, x11, x12, x13⟩ := blk14 HG.out
  have lg := HG.out.lt
  have HNGo := HNG
  have HWo := HW
  go_wp2_with fail
  refine (put_doc B A1 c1 ys1 lt 7 (.inr (.inr rfl)) h2 (by omega) w1 HO.out HBW.out).mono ?_
  rintro e w2 ⟨A2, c2, rfl, ho, hm, hn⟩
  have hgl := HG.out.lt
  replace HNG := Lib.hid (fun i hi => (show i ≠ w.heap.size from (hn i hi).elim (fun h => HNG.out i h) (fun h => by omega)))
  have hs1 := HM.out.size
  replace HW := Lib.hid (fun i hi => (show (Value.slice A xs.length c).ownBlock = some i ∨ w.heap.size ≤ i from (hn i hi).elim (fun h => HW.out i h) (fun h => .inr (Nat.le_trans hs1 h))))
  replace HG := Lib.hid (HG.out.kept hm (fun h => HNGo.out _ h rfl))
  replace HBW := Lib.hid (Nat.le_trans HBW.out hm.size)
  replace HM := Lib.hid (HM.out.trans hm (fun i hi => HWo.out i hi))
  obtain ⟨ys2, hys2⟩ : ∃ ys, ys = ys1 ++ Wr.be 7 lt := ⟨_, rfl⟩
  rw [← hys2] at ho HNG HW ⊢
  have hL2 : ys2.length = ys1.length + 7 := by rw [hys2, List.length_append]; simp [Wr.be_length, olay_length]
  replace HO := Lib.hid ho
  have HY2 := Lib.hid hys2
  have HL2 := Lib.hid hL2
  have hl2 : ys2.length ≤ 1020 := by omega
  clear ho hm hn hgl hs1 hys2 hL2 x0 x1 x2 x3 x4 x5 x6 x7 x8 x9 x10 x11 x12 x13 lg HNGo HWo
  go_wp2_with fail
  go_ret
  have hfin : ys2 = xs ++ be7 [ix, lt] := by rw [HY2.out, HY1.out]; simp [be7, okB_be]
  rw [← hfin]
  exact ⟨A2, c2, rfl, HO.out, HM.out, HW.out⟩

set_option maxHeartbeats 4000000 in
theorem body_doc2 (B : Nat) (A : Option Addr) (c : Nat) (xs : List Int) (P : Po)  (w : World) (ho : w.ownsRow B 5 1 (.slice A xs.length c) xs.length (bts xs)) (hB : B ≤ w.heap.size) (hl : xs.length ≤ 1000) (hk : P.kd = 2) :
    Calls Try.prog 62 #[.slice A xs.length c, P.v] w (OutDid B (.slice A xs.length c) (xs ++ okB P.ok) w) := by
  obtain ⟨kd, fr, tq, te, ix, lt, co, ok, hi, EA, en, ec, si, st, sc, SA, sn, sk⟩ := P
  simp only at hk
  subst hk
  have HO0 := Lib.hid ho
  have HNG0 := Lib.hid (show ∀ i, (Value.slice A xs.length c).ownBlock = some i → i < w.heap.size from own_lt ho)
  clear ho
  go_enter Try.func62, Try.ntmps62
  go_wp2_with fail
  obtain ⟨wg, hwg⟩ : ∃ u, u = w.alloc (.cells (Po.cs ⟨2, fr, tq, te, ix, lt, co, ok, hi, EA, en, ec, si, st, sc, SA, sn, sk⟩) 27) := ⟨_, rfl⟩
  have HG := Lib.hid (show Blk wg w.heap.size 27 (Po.cs ⟨2, fr, tq, te, ix, lt, co, ok, hi, EA, en, ec, si, st, sc, SA, sn, sk⟩) by rw [hwg]; exact Blk.new _ _ _)
  have hm : Mod (fun i => (Value.slice A xs.length c).ownBlock = some i) w wg := by rw [hwg]; exact (Mod.refl _ w).alloc _
  have HO := Lib.hid (show wg.ownsRow B 5 1 (.slice A xs.length c) xs.length (bts xs) by rw [hwg]; exact HO0.out.alloc _)
  have HM := Lib.hid hm
  have HNG := Lib.hid (show ∀ i, (Value.slice A xs.length c).ownBlock = some i → i ≠ w.heap.size from fun i hi => by have := HNG0.out i hi; omega)
  have HW := Lib.hid (show ∀ i, (Value.slice A xs.length c).ownBlock = some i → (Value.slice A xs.length c).ownBlock = some i ∨ w.heap.size ≤ i from fun i hi => .inl hi)
  have HBW := Lib.hid (show B ≤ wg.heap.size from Nat.le_trans hB hm.size)
  have hlz : xs.length ≤ 1000 + 0 := hl
  rw [← hwg]
  clear hwg hm
  obtain ⟨x0, x1, x2, x3, x4, x5, x6, x7, x8, x9, x10, x11, x12, x13⟩ := blk14 HG.out
  have lg := HG.out.lt
  have HNGo := HNG
  have HWo := HW
  go_wp2_with fail
  refine (one_doc ok wg).mono ?_
  rintro e w0 ⟨rfl, rfl⟩
  obtain ⟨o1, ho1⟩ : ∃ v : Int, v = (if ok then 1 else 0) := ⟨_, rfl⟩
  rw [← ho1]
  have HO1 := Lib.hid ho1
  have ho1b : 0 ≤ o1 ∧ o1 ≤ 9007199254740991 := by rw [ho1]; cases ok <;> decide
  clear ho1
  go_wp2_with fail
  refine (put_doc B A c xs o1 1 (.inl rfl) ho1b (by omega) wg HO.out HBW.out).mono ?_
  rintro e w1 ⟨A1, c1, rfl, ho, hm, hn⟩
  have hgl := HG.out.lt
  replace HNG := Lib.hid (fun i hi => (show i ≠ w.heap.size from (hn i hi).elim (fun h => HNG.out i h) (fun h => by omega)))
  have hs1 := HM.out.size
  replace HW := Lib.hid (fun i hi => (show (Value.slice A xs.length c).ownBlock = some i ∨ w.heap.size ≤ i from (hn i hi).elim (fun h => HW.out i h) (fun h => .inr (Nat.le_trans hs1 h))))
  replace HG := Lib.hid (HG.out.kept hm (fun h => HNGo.out _ h rfl))
  replace HBW := Lib.hid (Nat.le_trans HBW.out hm.size)
  replace HM := Lib.hid (HM.out.trans hm (fun i hi => HWo.out i hi))
  obtain ⟨ys1, hys1⟩ : ∃ ys, ys = xs ++ Wr.be 1 o1 := ⟨_, rfl⟩
  rw [← hys1] at ho HNG HW ⊢
  have hL1 : ys1.length = xs.length + 1 := by rw [hys1, List.length_append]; simp [Wr.be_length, olay_length]
  replace HO := Lib.hid ho
  have HY1 := Lib.hid hys1
  have HL1 := Lib.hid hL1
  have hl1 : ys1.length ≤ 1010 := by omega
  clear ho hm hn hgl hs1 hys1 hL1 x0 x1 x2 x3 x4 x5 x6 x7 x8 x9 x10 x11 x12 x13 lg HNGo HWo
  go_wp2_with fail
  go_ret
  have hfin : ys1 = xs ++ okB ok := by rw [HY1.out, HO1.out]; simp [be7, okB_be]
  rw [← hfin]
  exact ⟨A1, c1, rfl, HO.out, HM.out, HW.out⟩

set_option maxHeartbeats 4000000 in
theorem body_doc4 (B : Nat) (A : Option Addr) (c : Nat) (xs : List Int) (P : Po)  (w : World) (ho : w.ownsRow B 5 1 (.slice A xs.length c) xs.length (bts xs)) (hB : B ≤ w.heap.size) (hl : xs.length ≤ 1000) (hk : P.kd = 4) (h1 : 0 ≤ P.ix ∧ P.ix ≤ 9007199254740991) (h2 : 0 ≤ P.hi ∧ P.hi ≤ 9007199254740991) :
    Calls Try.prog 62 #[.slice A xs.length c, P.v] w (OutDid B (.slice A xs.length c) (xs ++ (okB P.ok ++ be7 [P.ix, P.hi])) w) := by
  obtain ⟨kd, fr, tq, te, ix, lt, co, ok, hi, EA, en, ec, si, st, sc, SA, sn, sk⟩ := P
  simp only at hk
  subst hk
  have HO0 := Lib.hid ho
  have HNG0 := Lib.hid (show ∀ i, (Value.slice A xs.length c).ownBlock = some i → i < w.heap.size from own_lt ho)
  clear ho
  go_enter Try.func62, Try.ntmps62
  go_wp2_with fail
  obtain ⟨wg, hwg⟩ : ∃ u, u = w.alloc (.cells (Po.cs ⟨4, fr, tq, te, ix, lt, co, ok, hi, EA, en, ec, si, st, sc, SA, sn, sk⟩) 27) := ⟨_, rfl⟩
  have HG := Lib.hid (show Blk wg w.heap.size 27 (Po.cs ⟨4, fr, tq, te, ix, lt, co, ok, hi, EA, en, ec, si, st, sc, SA, sn, sk⟩) by rw [hwg]; exact Blk.new _ _ _)
  have hm : Mod (fun i => (Value.slice A xs.length c).ownBlock = some i) w wg := by rw [hwg]; exact (Mod.refl _ w).alloc _
  have HO := Lib.hid (show wg.ownsRow B 5 1 (.slice A xs.length c) xs.length (bts xs) by rw [hwg]; exact HO0.out.alloc _)
  have HM := Lib.hid hm
  have HNG := Lib.hid (show ∀ i, (Value.slice A xs.length c).ownBlock = some i → i ≠ w.heap.size from fun i hi => by have := HNG0.out i hi; omega)
  have HW := Lib.hid (show ∀ i, (Value.slice A xs.length c).ownBlock = some i → (Value.slice A xs.length c).ownBlock = some i ∨ w.heap.size ≤ i from fun i hi => .inl hi)
  have HBW := Lib.hid (show B ≤ wg.heap.size from Nat.le_trans hB hm.size)
  have hlz : xs.length ≤ 1000 + 0 := hl
  rw [← hwg]
  clear hwg hm
  obtain ⟨x0, x1, x2, x3, x4, x5, x6, x7, x8, x9, x10, x11, x12, x13⟩ := blk14 HG.out
  have lg := HG.out.lt
  have HNGo := HNG
  have HWo := HW
  go_wp2_with fail
  refine (one_doc ok wg).mono ?_
  rintro e w0 ⟨rfl, rfl⟩
  obtain ⟨o1, ho1⟩ : ∃ v : Int, v = (if ok then 1 else 0) := ⟨_, rfl⟩
  rw [← ho1]
  have HO1 := Lib.hid ho1
  have ho1b : 0 ≤ o1 ∧ o1 ≤ 9007199254740991 := by rw [ho1]; cases ok <;> decide
  clear ho1
  go_wp2_with fail
  refine (put_doc B A c xs o1 1 (.inl rfl) ho1b (by omega) wg HO.out HBW.out).mono ?_
  rintro e w1 ⟨A1, c1, rfl, ho, hm, hn⟩
  have hgl := HG.out.lt
  replace HNG := Lib.hid (fun i hi => (show i ≠ w.heap.size from (hn i hi).elim (fun h => HNG.out i h) (fun h => by omega)))
  have hs1 := HM.out.size
  replace HW := Lib.hid (fun i hi => (show (Value.slice A xs.length c).ownBlock = some i ∨ w.heap.size ≤ i from (hn i hi).elim (fun h => HW.out i h) (fun h => .inr (Nat.le_trans hs1 h))))
  replace HG := Lib.hid (HG.out.kept hm (fun h => HNGo.out _ h rfl))
  replace HBW := Lib.hid (Nat.le_trans HBW.out hm.size)
  replace HM := Lib.hid (HM.out.trans hm (fun i hi => HWo.out i hi))
  obtain ⟨ys1, hys1⟩ : ∃ ys, ys = xs ++ Wr.be 1 o1 := ⟨_, rfl⟩
  rw [← hys1] at ho HNG HW ⊢
  have hL1 : ys1.length = xs.length + 1 := by rw [hys1, List.length_append]; simp [Wr.be_length, olay_length]
  replace HO := Lib.hid ho
  have HY1 := Lib.hid hys1
  have HL1 := Lib.hid hL1
  have hl1 : ys1.length ≤ 1010 := by omega
  clear ho hm hn hgl hs1 hys1 hL1 x0 x1 x2 x3 x4 x5 x6 x7 x8 x9 x10 x11 x12 x13 lg HNGo HWo
  obtain ⟨x0, x1, x2, x3, x4, x5, x6, x7, x8, x9, x10, x11, x12, x13⟩ := blk14 HG.out
  have lg := HG.out.lt
  have HNGo := HNG
  have HWo := HW
  go_wp2_with fail
  refine (put_doc B A1 c1 ys1 ix 7 (.inr (.inr rfl)) h1 (by omega) w1 HO.out HBW.out).mono ?_
  rintro e w2 ⟨A2, c2, rfl, ho, hm, hn⟩
  have hgl := HG.out.lt
  replace HNG := Lib.hid (fun i hi => (show i ≠ w.heap.size from (hn i hi).elim (fun h => HNG.out i h) (fun h => by omega)))
  have hs1 := HM.out.size
  replace HW := Lib.hid (fun i hi => (show (Value.slice A xs.length c).ownBlock = some i ∨ w.heap.size ≤ i from (hn i hi).elim (fun h => HW.out i h) (fun h => .inr (Nat.le_trans hs1 h))))
  replace HG := Lib.hid (HG.out.kept hm (fun h => HNGo.out _ h rfl))
  replace HBW := Lib.hid (Nat.le_trans HBW.out hm.size)
  replace HM := Lib.hid (HM.out.trans hm (fun i hi => HWo.out i hi))
  obtain ⟨ys2, hys2⟩ : ∃ ys, ys = ys1 ++ Wr.be 7 ix := ⟨_, rfl⟩
  rw [← hys2] at ho HNG HW ⊢
  have hL2 : ys2.length = ys1.length + 7 := by rw [hys2, List.length_append]; simp [Wr.be_length, olay_length]
  replace HO := Lib.hid ho
  have HY2 := Lib.hid hys2
  have HL2 := Lib.hid hL2
  have hl2 : ys2.length ≤ 1020 := by omega
  clear ho hm hn hgl hs1 hys2 hL2 x0 x1 x2 x3 x4 x5 x6 x7 x8 x9 x10 x11 x12 x13 lg HNGo HWo
  obtain ⟨x0, x1, x2, x3, x4, x5, x6, x7, x8, x9, x10, x11, x12, x13⟩ := blk14 HG.out
  have lg := HG.out.lt
  have HNGo := HNG
  have HWo := HW
  go_wp2_with fail
  refine (put_doc B A2 c2 ys2 hi 7 (.inr (.inr rfl)) h2 (by omega) w2 HO.out HBW.out).mono ?_
  rintro e w3 ⟨A3, c3, rfl, ho, hm, hn⟩
  have hgl := HG.out.lt
  replace HNG := Lib.hid (fun i hi => (show i ≠ w.heap.size from (hn i hi).elim (fun h => HNG.out i h) (fun h => by omega)))
  have hs1 := HM.out.size
  replace HW := Lib.hid (fun i hi => (show (Value.slice A xs.length c).ownBlock = some i ∨ w.heap.size ≤ i from (hn i hi).elim (fun h => HW.out i h) (fun h => .inr (Nat.le_trans hs1 h))))
  replace HG := Lib.hid (HG.out.kept hm (fun h => HNGo.out _ h rfl))
  replace HBW := Lib.hid (Nat.le_trans HBW.out hm.size)
  replace HM := Lib.hid (HM.out.trans hm (fun i hi => HWo.out i hi))
  obtain ⟨ys3, hys3⟩ : ∃ ys, ys = ys2 ++ Wr.be 7 hi := ⟨_, rfl⟩
  rw [← hys3] at ho HNG HW ⊢
  have hL3 : ys3.length = ys2.length + 7 := by rw [hys3, List.length_append]; simp [Wr.be_length, olay_length]
  replace HO := Lib.hid ho
  have HY3 := Lib.hid hys3
  have HL3 := Lib.hid hL3
  have hl3 : ys3.length ≤ 1030 := by omega
  clear ho hm hn hgl hs1 hys3 hL3 x0 x1 x2 x3 x4 x5 x6 x7 x8 x9 x10 x11 x12 x13 lg HNGo HWo
  go_wp2_with fail
  go_ret
  have hfin : ys3 = xs ++ (okB ok ++ be7 [ix, hi]) := by rw [HY3.out, HY2.out, HY1.out, HO1.out]; simp [be7, okB_be]
  rw [← hfin]
  exact ⟨A3, c3, rfl, HO.out, HM.out, HW.out⟩

set_option maxHeartbeats 4000000 in
theorem body_doc5 (B : Nat) (A : Option Addr) (c : Nat) (xs : List Int) (P : Po)  (w : World) (ho : w.ownsRow B 5 1 (.slice A xs.length c) xs.length (bts xs)) (hB : B ≤ w.heap.size) (hl : xs.length ≤ 1000) (hk : P.kd = 5) (h1 : 0 ≤ P.hi ∧ P.hi ≤ 9007199254740991) (h2 : 0 ≤ P.si ∧ P.si ≤ 9007199254740991) (h3 : 0 ≤ P.st ∧ P.st ≤ 9007199254740991) (h4 : 0 ≤ P.sc ∧ P.sc ≤ 9007199254740991) (T : Nat → Prop) (d : List Int) (hd : d.length = P.sn) (hd8 : d.length ≤ 8192) (hrd : Rd w T 1 (.slice P.SA P.sn P.sk) P.sn (bts d)) (hT : ∀ i, T i → i < B) :
    Calls Try.prog 62 #[.slice A xs.length c, P.v] w (OutDid B (.slice A xs.length c) (xs ++ (be7 [P.hi, P.si, P.st] ++ (Wr.be 1 P.sc ++ olay d))) w) := by
  obtain ⟨kd, fr, tq, te, ix, lt, co, ok, hi, EA, en, ec, si, st, sc, SA, sn, sk⟩ := P
  simp only at hk
  subst hk
  simp only at hd hrd
  subst hd
  have HD0 := Lib.hid hrd
  have HS := Lib.hid hT
  clear hrd hT
  have HO0 := Lib.hid ho
  have HNG0 := Lib.hid (show ∀ i, (Value.slice A xs.length c).ownBlock = some i → i < w.heap.size from own_lt ho)
  clear ho
  go_enter Try.func62, Try.ntmps62
  go_wp2_with fail
  obtain ⟨wg, hwg⟩ : ∃ u, u = w.alloc (.cells (Po.cs ⟨5, fr, tq, te, ix, lt, co, ok, hi, EA, en, ec, si, st, sc, SA, d.length, sk⟩) 27) := ⟨_, rfl⟩
  have HG := Lib.hid (show Blk wg w.heap.size 27 (Po.cs ⟨5, fr, tq, te, ix, lt, co, ok, hi, EA, en, ec, si, st, sc, SA, d.length, sk⟩) by rw [hwg]; exact Blk.new _ _ _)
  have hm : Mod (fun i => (Value.slice A xs.length c).ownBlock = some i) w wg := by rw [hwg]; exact (Mod.refl _ w).alloc _
  have HO := Lib.hid (show wg.ownsRow B 5 1 (.slice A xs.length c) xs.length (bts xs) by rw [hwg]; exact HO0.out.alloc _)
  have HM := Lib.hid hm
  have HD := Lib.hid (HD0.out.kept hm (fun i hi h => by have := own_ge HO0.out i h; have := HS.out i hi; omega))
  have HNG := Lib.hid (show ∀ i, (Value.slice A xs.length c).ownBlock = some i → i ≠ w.heap.size from fun i hi => by have := HNG0.out i hi; omega)
  have HW := Lib.hid (show ∀ i, (Value.slice A xs.length c).ownBlock = some i → (Value.slice A xs.length c).ownBlock = some i ∨ w.heap.size ≤ i from fun i hi => .inl hi)
  have HBW := Lib.hid (show B ≤ wg.heap.size from Nat.le_trans hB hm.size)
  have hlz : xs.length ≤ 1000 + 0 := hl
  rw [← hwg]
  clear hwg hm
  obtain ⟨x0, x1, x2, x3, x4, x5, x6, x7, x8, x9, x10, x11, x12, x13⟩ := blk14 HG.out
  have lg := HG.out.lt
  have HNGo := HNG
  have HWo := HW
  go_wp2_with fail
  refine (put_doc B A c xs hi 7 (.inr (.inr rfl)) h1 (by omega) wg HO.out HBW.out).mono ?_
  rintro e w1 ⟨A1, c1, rfl, ho, hm, hn⟩
  replace HD := Lib.hid (HD.out.kept hm (fun i hi h => by have := own_ge HO.out i h; have := HS.out i hi; omega))
  have hgl := HG.out.lt
  replace HNG := Lib.hid (fun i hi => (show i ≠ w.heap.size from (hn i hi).elim (fun h => HNG.out i h) (fun h => by omega)))
  have hs1 := HM.out.size
  replace HW := Lib.hid (fun i hi => (show (Value.slice A xs.length c).ownBlock = some i ∨ w.heap.size ≤ i from (hn i hi).elim (fun h => HW.out i h) (fun h => .inr (Nat.le_trans hs1 h))))
  replace HG := Lib.hid (HG.out.kept hm (fun h => HNGo.out _ h rfl))
  replace HBW := Lib.hid (Nat.le_trans HBW.out hm.size)
  replace HM := Lib.hid (HM.out.trans hm (fun i hi => HWo.out i hi))
  obtain ⟨ys1, hys1⟩ : ∃ ys, ys = xs ++ Wr.be 7 hi := ⟨_, rfl⟩
  rw [← hys1] at ho HNG HW ⊢
  have hL1 : ys1.length = xs.length + 7 := by rw [hys1, List.length_append]; simp [Wr.be_length, olay_length]
  replace HO := Lib.hid ho
  have HY1 := Lib.hid hys1
  have HL1 := Lib.hid hL1
  have hl1 : ys1.length ≤ 1010 := by omega
  clear ho hm hn hgl hs1 hys1 hL1 x0 x1 x2 x3 x4 x5 x6 x7 x8 x9 x10 x11 x12 x13 lg HNGo HWo
  obtain ⟨x0, x1, x2, x3, x4, x5, x6, x7, x8, x9, x10, x11, x12, x13⟩ := blk14 HG.out
  have lg := HG.out.lt
  have HNGo := HNG
  have HWo := HW
  go_wp2_with fail
  refine (put_doc B A1 c1 ys1 si 7 (.inr (.inr rfl)) h2 (by omega) w1 HO.out HBW.out).mono ?_
  rintro e w2 ⟨A2, c2, rfl, ho, hm, hn⟩
  replace HD := Lib.hid (HD.out.kept hm (fun i hi h => by have := own_ge HO.out i h; have := HS.out i hi; omega))
  have hgl := HG.out.lt
  replace HNG := Lib.hid (fun i hi => (show i ≠ w.heap.size from (hn i hi).elim (fun h => HNG.out i h) (fun h => by omega)))
  have hs1 := HM.out.size
  replace HW := Lib.hid (fun i hi => (show (Value.slice A xs.length c).ownBlock = some i ∨ w.heap.size ≤ i from (hn i hi).elim (fun h => HW.out i h) (fun h => .inr (Nat.le_trans hs1 h))))
  replace HG := Lib.hid (HG.out.kept hm (fun h => HNGo.out _ h rfl))
  replace HBW := Lib.hid (Nat.le_trans HBW.out hm.size)
  replace HM := Lib.hid (HM.out.trans hm (fun i hi => HWo.out i hi))
  obtain ⟨ys2, hys2⟩ : ∃ ys, ys = ys1 ++ Wr.be 7 si := ⟨_, rfl⟩
  rw [← hys2] at ho HNG HW ⊢
  have hL2 : ys2.length = ys1.length + 7 := by rw [hys2, List.length_append]; simp [Wr.be_length, olay_length]
  replace HO := Lib.hid ho
  have HY2 := Lib.hid hys2
  have HL2 := Lib.hid hL2
  have hl2 : ys2.length ≤ 1020 := by omega
  clear ho hm hn hgl hs1 hys2 hL2 x0 x1 x2 x3 x4 x5 x6 x7 x8 x9 x10 x11 x12 x13 lg HNGo HWo
  obtain ⟨x0, x1, x2, x3, x4, x5, x6, x7, x8, x9, x10, x11, x12, x13⟩ := blk14 HG.out
  have lg := HG.out.lt
  have HNGo := HNG
  have HWo := HW
  go_wp2_with fail
  refine (put_doc B A2 c2 ys2 st 7 (.inr (.inr rfl)) h3 (by omega) w2 HO.out HBW.out).mono ?_
  rintro e w3 ⟨A3, c3, rfl, ho, hm, hn⟩
  replace HD := Lib.hid (HD.out.kept hm (fun i hi h => by have := own_ge HO.out i h; have := HS.out i hi; omega))
  have hgl := HG.out.lt
  replace HNG := Lib.hid (fun i hi => (show i ≠ w.heap.size from (hn i hi).elim (fun h => HNG.out i h) (fun h => by omega)))
  have hs1 := HM.out.size
  replace HW := Lib.hid (fun i hi => (show (Value.slice A xs.length c).ownBlock = some i ∨ w.heap.size ≤ i from (hn i hi).elim (fun h => HW.out i h) (fun h => .inr (Nat.le_trans hs1 h))))
  replace HG := Lib.hid (HG.out.kept hm (fun h => HNGo.out _ h rfl))
  replace HBW := Lib.hid (Nat.le_trans HBW.out hm.size)
  replace HM := Lib.hid (HM.out.trans hm (fun i hi => HWo.out i hi))
  obtain ⟨ys3, hys3⟩ : ∃ ys, ys = ys2 ++ Wr.be 7 st := ⟨_, rfl⟩
  rw [← hys3] at ho HNG HW ⊢
  have hL3 : ys3.length = ys2.length + 7 := by rw [hys3, List.length_append]; simp [Wr.be_length, olay_length]
  replace HO := Lib.hid ho
  have HY3 := Lib.hid hys3
  have HL3 := Lib.hid hL3
  have hl3 : ys3.length ≤ 1030 := by omega
  clear ho hm hn hgl hs1 hys3 hL3 x0 x1 x2 x3 x4 x5 x6 x7 x8 x9 x10 x11 x12 x13 lg HNGo HWo
  obtain ⟨x0, x1, x2, x3, x4, x5, x6, x7, x8, x9, x10, x11, x12, x13⟩ := blk14 HG.out
  have lg := HG.out.lt
  have HNGo := HNG
  have HWo := HW
  go_wp2_with fail
  refine (put_doc B A3 c3 ys3 sc 1 (.inl rfl) h4 (by omega) w3 HO.out HBW.out).mono ?_
  rintro e w4 ⟨A4, c4, rfl, ho, hm, hn⟩
  replace HD := Lib.hid (HD.out.kept hm (fun i hi h => by have := own_ge HO.out i h; have := HS.out i hi; omega))
  have hgl := HG.out.lt
  replace HNG := Lib.hid (fun i hi => (show i ≠ w.heap.size from (hn i hi).elim (fun h => HNG.out i h) (fun h => by omega)))
  have hs1 := HM.out.size
  replace HW := Lib.hid (fun i hi => (show (Value.slice A xs.length c).ownBlock = some i ∨ w.heap.size ≤ i from (hn i hi).elim (fun h => HW.out i h) (fun h => .inr (Nat.le_trans hs1 h))))
  replace HG := Lib.hid (HG.out.kept hm (fun h => HNGo.out _ h rfl))
  replace HBW := Lib.hid (Nat.le_trans HBW.out hm.size)
  replace HM := Lib.hid (HM.out.trans hm (fun i hi => HWo.out i hi))
  obtain ⟨ys4, hys4⟩ : ∃ ys, ys = ys3 ++ Wr.be 1 sc := ⟨_, rfl⟩
  rw [← hys4] at ho HNG HW ⊢
  have hL4 : ys4.length = ys3.length + 1 := by rw [hys4, List.length_append]; simp [Wr.be_length, olay_length]
  replace HO := Lib.hid ho
  have HY4 := Lib.hid hys4
  have HL4 := Lib.hid hL4
  have hl4 : ys4.length ≤ 1040 := by omega
  clear ho hm hn hgl hs1 hys4 hL4 x0 x1 x2 x3 x4 x5 x6 x7 x8 x9 x10 x11 x12 x13 lg HNGo HWo
  obtain ⟨x0, x1, x2, x3, x4, x5, x6, x7, x8, x9, x10, x11, x12, x13⟩ := blk14 HG.out
  have lg := HG.out.lt
  have HNGo := HNG
  have HWo := HW
  go_wp2_with fail
  refine (octets_doc B _ A4 SA c4 sk ys4 d (by omega) (by omega) w4 HO.out HBW.out HD.out HS.out).mono ?_
  rintro e w5 ⟨A5, c5, rfl, ho, hm, hn⟩
  have hgl := HG.out.lt
  replace HNG := Lib.hid (fun i hi => (show i ≠ w.heap.size from (hn i hi).elim (fun h => HNG.out i h) (fun h => by omega)))
  have hs1 := HM.out.size
  replace HW := Lib.hid (fun i hi => (show (Value.slice A xs.length c).ownBlock = some i ∨ w.heap.size ≤ i from (hn i hi).elim (fun h => HW.out i h) (fun h => .inr (Nat.le_trans hs1 h))))
  replace HG := Lib.hid (HG.out.kept hm (fun h => HNGo.out _ h rfl))
  replace HBW := Lib.hid (Nat.le_trans HBW.out hm.size)
  replace HM := Lib.hid (HM.out.trans hm (fun i hi => HWo.out i hi))
  obtain ⟨ys5, hys5⟩ : ∃ ys, ys = ys4 ++ olay d := ⟨_, rfl⟩
  rw [← hys5] at ho HNG HW ⊢
  have hL5 : ys5.length = ys4.length + (d.length + 2) := by rw [hys5, List.length_append]; simp [Wr.be_length, olay_length]
  replace HO := Lib.hid ho
  have HY5 := Lib.hid hys5
  have HL5 := Lib.hid hL5
  have hl5 : True := trivial
  clear ho hm hn hgl hs1 hys5 hL5 x0 x1 x2 x3 x4 x5 x6 x7 x8 x9 x10 x11 x12 x13 lg HNGo HWo
  go_wp2_with fail
  go_ret
  have hfin : ys5 = xs ++ (be7 [hi, si, st] ++ (Wr.be 1 sc ++ olay d)) := by rw [HY5.out, HY4.out, HY3.out, HY2.out, HY1.out]; simp [be7, okB_be]
  rw [← hfin]
  exact ⟨A5, c5, rfl, HO.out, HM.out, HW.out⟩

set_option maxHeartbeats 4000000 in
theorem body_doc6 (B : Nat) (A : Option Addr) (c : Nat) (xs : List Int) (P : Po)  (w : World) (ho : w.ownsRow B 5 1 (.slice A xs.length c) xs.length (bts xs)) (hB : B ≤ w.heap.size) (hl : xs.length ≤ 1000) (hk : P.kd = 6) (h1 : 0 ≤ P.ix ∧ P.ix ≤ 9007199254740991) (h2 : 0 ≤ P.hi ∧ P.hi ≤ 9007199254740991) :
    Calls Try.prog 62 #[.slice A xs.length c, P.v] w (OutDid B (.slice A xs.length c) (xs ++ be7 [P.ix, P.hi]) w) := by
  obtain ⟨kd, fr, tq, te, ix, lt, co, ok, hi, EA, en, ec, si, st, sc, SA, sn, sk⟩ := P
  simp only at hk
  subst hk
  have HO0 := Lib.hid ho
  have HNG0 := Lib.hid (show ∀ i, (Value.slice A xs.length c).ownBlock = some i → i < w.heap.size from own_lt ho)
  clear ho
  go_enter Try.func62, Try.ntmps62
  go_wp2_with fail
  obtain ⟨wg, hwg⟩ : ∃ u, u = w.alloc (.cells (Po.cs ⟨6, fr, tq, te, ix, lt, co, ok, hi, EA, en, ec, si, st, sc, SA, sn, sk⟩) 27) := ⟨_, rfl⟩
  have HG := Lib.hid (show Blk wg w.heap.size 27 (Po.cs ⟨6, fr, tq, te, ix, lt, co, ok, hi, EA, en, ec, si, st, sc, SA, sn, sk⟩) by rw [hwg]; exact Blk.new _ _ _)
  have hm : Mod (fun i => (Value.slice A xs.length c).ownBlock = some i) w wg := by rw [hwg]; exact (Mod.refl _ w).alloc _
  have HO := Lib.hid (show wg.ownsRow B 5 1 (.slice A xs.length c) xs.length (bts xs) by rw [hwg]; exact HO0.out.alloc _)
  have HM := Lib.hid hm
  have HNG := Lib.hid (show ∀ i, (Value.slice A xs.length c).ownBlock = some i → i ≠ w.heap.size from fun i hi => by have := HNG0.out i hi; omega)
  have HW := Lib.hid (show ∀ i, (Value.slice A xs.length c).ownBlock = some i → (Value.slice A xs.length c).ownBlock = some i ∨ w.heap.size ≤ i from fun i hi => .inl hi)
  have HBW := Lib.hid (show B ≤ wg.heap.size from Nat.le_trans hB hm.size)
  have hlz : xs.length ≤ 1000 + 0 := hl
  rw [← hwg]
  clear hwg hm
  obtain ⟨x0, x1, x2, x3, x4, x5, x6, x7, x8, x9, x10, x11, x12, x13⟩ := blk14 HG.out
  have lg := HG.out.lt
  have HNGo := HNG
  have HWo := HW
  go_wp2_with fail
  refine (put_doc B A c xs ix 7 (.inr (.inr rfl)) h1 (by omega) wg HO.out HBW.out).mono ?_
  rintro e w1 ⟨A1, c1, rfl, ho, hm, hn⟩
  have hgl := HG.out.lt
  replace HNG := Lib.hid (fun i hi => (show i ≠ w.heap.size from (hn i hi).elim (fun h => HNG.out i h) (fun h => by omega)))
  have hs1 := HM.out.size
  replace HW := Lib.hid (fun i hi => (show (Value.slice A xs.length c).ownBlock = some i ∨ w.heap.size ≤ i from (hn i hi).elim (fun h => HW.out i h) (fun h => .inr (Nat.le_trans hs1 h))))
  replace HG := Lib.hid (HG.out.kept hm (fun h => HNGo.out _ h rfl))
  replace HBW := Lib.hid (Nat.le_trans HBW.out hm.size)
  replace HM := Lib.hid (HM.out.trans hm (fun i hi => HWo.out i hi))
  obtain ⟨ys1, hys1⟩ : ∃ ys, ys = xs ++ Wr.be 7 ix := ⟨_, rfl⟩
  rw [← hys1] at ho HNG HW ⊢
  have hL1 : ys1.length = xs.length + 7 := by rw [hys1, List.length_append]; simp [Wr.be_length, olay_length]
  replace HO := Lib.hid ho
  have HY1 := Lib.hid hys1
  have HL1 := Lib.hid hL1
  have hl1 : ys1.length ≤ 1010 := by omega
  clear ho hm hn hgl hs1 hys1 hL1 x0 x1 x2 x3 x4 x5 x6 x7 x8 x9 x10 x11 x12 x13 lg HNGo HWo
  obtain ⟨x0, x1, x2, x3, x4, x5, x6, x7, x8, x9, x10, x11, x12, x13⟩ := blk14 HG.out
  have lg := HG.out.lt
  have HNGo := HNG
  have HWo := HW
  go_wp2_with fail
  refine (put_doc B A1 c1 ys1 hi 7 (.inr (.inr rfl)) h2 (by omega) w1 HO.out HBW.out).mono ?_
  rintro e w2 ⟨A2, c2, rfl, ho, hm, hn⟩
  have hgl := HG.out.lt
  replace HNG := Lib.hid (fun i hi => (show i ≠ w.heap.size from (hn i hi).elim (fun h => HNG.out i h) (fun h => by omega)))
  have hs1 := HM.out.size
  replace HW := Lib.hid (fun i hi => (show (Value.slice A xs.length c).ownBlock = some i ∨ w.heap.size ≤ i from (hn i hi).elim (fun h => HW.out i h) (fun h => .inr (Nat.le_trans hs1 h))))
  replace HG := Lib.hid (HG.out.kept hm (fun h => HNGo.out _ h rfl))
  replace HBW := Lib.hid (Nat.le_trans HBW.out hm.size)
  replace HM := Lib.hid (HM.out.trans hm (fun i hi => HWo.out i hi))
  obtain ⟨ys2, hys2⟩ : ∃ ys, ys = ys1 ++ Wr.be 7 hi := ⟨_, rfl⟩
  rw [← hys2] at ho HNG HW ⊢
  have hL2 : ys2.length = ys1.length + 7 := by rw [hys2, List.length_append]; simp [Wr.be_length, olay_length]
  replace HO := Lib.hid ho
  have HY2 := Lib.hid hys2
  have HL2 := Lib.hid hL2
  have hl2 : ys2.length ≤ 1020 := by omega
  clear ho hm hn hgl hs1 hys2 hL2 x0 x1 x2 x3 x4 x5 x6 x7 x8 x9 x10 x11 x12 x13 lg HNGo HWo
  go_wp2_with fail
  go_ret
  have hfin : ys2 = xs ++ be7 [ix, hi] := by rw [HY2.out, HY1.out]; simp [be7, okB_be]
  rw [← hfin]
  exact ⟨A2, c2, rfl, HO.out, HM.out, HW.out⟩

end Go.Proofs.Ytnphnaggamfoiaa
