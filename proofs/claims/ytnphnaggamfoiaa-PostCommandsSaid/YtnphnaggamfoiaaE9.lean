/- Unpack: the walk. -/
import Derived.Test.YtnphnaggamfoiaaE8
namespace Go.Proofs.Ytnphnaggamfoiaa
open Go.RowKit
set_option maxRecDepth 20000
set_option linter.unusedVariables false
set_option linter.unusedSimpArgs false

def UnDid (ys : List Int) (w : World) (e : Ending) (w' : World) : Prop :=
  ∃ P l d, e = .returned (.tuple #[.agg P.cs, .int .i64 (uZ ys).e]) ∧ PoAt w' (fun i => w.heap.size ≤ i ∧ i < w'.heap.size) P l d ∧ Below w.heap.size w w' ∧
    (((uZ ys).e = 0 ∧ P.norm = uP0 ys ∧ l.map En.ed = uL0 ys ∧ d = uD0 ys) ∨ ((uZ ys).e ≠ 0 ∧ P = zPo 0 0 0 0 ∧ l = [] ∧ d = []))

theorem mod14 (w : World) (g : Nat) : Mod (fun j => j = g) w ((((((((((((((w.setCell ⟨g, 0, none⟩ (.int .i64 0)).setCell ⟨g, 1, none⟩ (.int .i64 0)).setCell ⟨g, 2, none⟩ (.int .i64 0)).setCell ⟨g, 3, none⟩ (.int .i64 0)).setCell ⟨g, 4, none⟩ (.int .i64 0)).setCell ⟨g, 5, none⟩ (.int .i64 0)).setCell ⟨g, 6, none⟩ (.int .i64 0)).setCell ⟨g, 7, none⟩ (.bool false)).setCell ⟨g, 8, none⟩ (.int .i64 0)).setCell ⟨g, 9, none⟩ (.slice none 0 0)).setCell ⟨g, 10, none⟩ (.int .i64 0)).setCell ⟨g, 11, none⟩ (.int .i64 0)).setCell ⟨g, 12, none⟩ (.int .i64 0)).setCell ⟨g, 13, none⟩ (.slice none 0 0)) := (((((((((((((((Mod.refl (fun j => j = g) w).setCell (p := ⟨g, 0, none⟩) (.inl rfl) (.int .i64 0)).setCell (p := ⟨g, 1, none⟩) (.inl rfl) (.int .i64 0)).setCell (p := ⟨g, 2, none⟩) (.inl rfl) (.int .i64 0)).setCell (p := ⟨g, 3, none⟩) (.inl rfl) (.int .i64 0)).setCell (p := ⟨g, 4, none⟩) (.inl rfl) (.int .i64 0)).setCell (p := ⟨g, 5, none⟩) (.inl rfl) (.int .i64 0)).setCell (p := ⟨g, 6, none⟩) (.inl rfl) (.int .i64 0)).setCell (p := ⟨g, 7, none⟩) (.inl rfl) (.bool false)).setCell (p := ⟨g, 8, none⟩) (.inl rfl) (.int .i64 0)).setCell (p := ⟨g, 9, none⟩) (.inl rfl) (.slice none 0 0)).setCell (p := ⟨g, 10, none⟩) (.inl rfl) (.int .i64 0)).setCell (p := ⟨g, 11, none⟩) (.inl rfl) (.int .i64 0)).setCell (p := ⟨g, 12, none⟩) (.inl rfl) (.int .i64 0)).setCell (p := ⟨g, 13, none⟩) (.inl rfl) (.slice none 0 0))
theorem blkz14 {w : World} {g : Nat} {t : TypeId} (h : Blk w g t (zPo 0 0 0 0).cs) : ∃ wz, wz = ((((((((((((((w.setCell ⟨g, 0, none⟩ (.int .i64 0)).setCell ⟨g, 1, none⟩ (.int .i64 0)).setCell ⟨g, 2, none⟩ (.int .i64 0)).setCell ⟨g, 3, none⟩ (.int .i64 0)).setCell ⟨g, 4, none⟩ (.int .i64 0)).setCell ⟨g, 5, none⟩ (.int .i64 0)).setCell ⟨g, 6, none⟩ (.int .i64 0)).setCell ⟨g, 7, none⟩ (.bool false)).setCell ⟨g, 8, none⟩ (.int .i64 0)).setCell ⟨g, 9, none⟩ (.slice none 0 0)).setCell ⟨g, 10, none⟩ (.int .i64 0)).setCell ⟨g, 11, none⟩ (.int .i64 0)).setCell ⟨g, 12, none⟩ (.int .i64 0)).setCell ⟨g, 13, none⟩ (.slice none 0 0)) ∧ Blk wz g t (zPo 0 0 0 0).cs ∧ Mod (fun j => j = g) w wz := blk_set14 h (zPo 0 0 0 0)
theorem cell14 {w : World} {g rb : Nat} {v : Value} (h : w.cell? ⟨rb, 1, none⟩ = some v) (hne : rb ≠ g) : World.cell? ((((((((((((((w.setCell ⟨g, 0, none⟩ (.int .i64 0)).setCell ⟨g, 1, none⟩ (.int .i64 0)).setCell ⟨g, 2, none⟩ (.int .i64 0)).setCell ⟨g, 3, none⟩ (.int .i64 0)).setCell ⟨g, 4, none⟩ (.int .i64 0)).setCell ⟨g, 5, none⟩ (.int .i64 0)).setCell ⟨g, 6, none⟩ (.int .i64 0)).setCell ⟨g, 7, none⟩ (.bool false)).setCell ⟨g, 8, none⟩ (.int .i64 0)).setCell ⟨g, 9, none⟩ (.slice none 0 0)).setCell ⟨g, 10, none⟩ (.int .i64 0)).setCell ⟨g, 11, none⟩ (.int .i64 0)).setCell ⟨g, 12, none⟩ (.int .i64 0)).setCell ⟨g, 13, none⟩ (.slice none 0 0)) ⟨rb, 1, none⟩ = some v := (mod14 w g).cell (p := ⟨rb, 1, none⟩) h hne
set_option maxHeartbeats 4000000 in
theorem un_any (T : Nat → Prop) (A : Option Addr) (c : Nat) (ys : List Int) (W : World) (hr : Rd W T 1 (.slice A ys.length c) ys.length (bts ys)) (hT : ∀ i, T i → i < W.heap.size) (hb : Byt ys) (hl : ys.length ≤ 140737488351232) :
    Calls Try.prog 30 #[.slice A ys.length c] W (UnDid ys W) := by
  have HR := Lib.hid hr
  have HT := Lib.hid hT
  have HY := Lib.hid hb
  have hmf := mkfn
  clear hr hT hb
  go_enter Try.func30, Try.ntmps30
  go_wp2_with fail
  refine (Wr.rnew_any T A c ys _ (HR.out.below (Ba (B0 W) _) HT.out) (fun i hi => Nat.lt_of_lt_of_le (HT.out i hi) (by simp)) (by omega)).mono ?_
  rintro e w1 ⟨p, S, rfl, hrd, hb1, hS⟩
  have hSl : ∀ i, S i → i < w1.heap.size := by obtain ⟨_, _, _, _, h⟩ := hrd; exact h.1
  have H := Lib.hid (show RrAt ((w1.alloc (.cells #[.pointer (some ⟨p, 0, none⟩), .int .i64 0] 76)).alloc (.cells (zPo 0 0 0 0).cs 27)) (fun i => S i ∨ i = w1.heap.size) w1.heap.size ⟨ys, 0⟩ from
    ⟨.inr rfl, fun i hi => hi.elim (fun h => Nat.lt_of_lt_of_le (hSl i h) (by simp; omega)) (fun h => by subst h; simp; omega), HY.out, p, S, fun i hi => .inl hi, fun h => by have := hSl _ h; omega, (Blk.new w1 76 _).alloc _, hrd.below (Ba (Ba (B0 w1) _) _)⟩)
  have HC := Lib.hid (And.intro (Blk.new1 w1 (.cells #[.pointer (some ⟨p, 0, none⟩), .int .i64 0] 76) 27 (zPo 0 0 0 0).cs) (show ¬ (S (w1.heap.size + 1) ∨ w1.heap.size + 1 = w1.heap.size) from fun h => h.elim (fun h => by have := hSl _ h; omega) (fun h => by omega)))
  have hB1 : Below W.heap.size W w1 := Bt (Ba (B0 W) _) hb1
  have HB := Lib.hid (show Below W.heap.size W ((w1.alloc (.cells #[.pointer (some ⟨p, 0, none⟩), .int .i64 0] 76)).alloc (.cells (zPo 0 0 0 0).cs 27)) from Ba (Ba hB1 _) _)
  have HZ := Lib.hid (show Blk ((w1.alloc (.cells #[.pointer (some ⟨p, 0, none⟩), .int .i64 0] 76)).alloc (.cells (zPo 0 0 0 0).cs 27)) W.heap.size 27 (zPo 0 0 0 0).cs from (((Blk.new W 27 (zPo 0 0 0 0).cs).later hb1).alloc _).alloc _)
  have lW : W.heap.size < w1.heap.size := Nat.lt_of_lt_of_le (by simp) hb1.size
  have hTW : ∀ i, (S i ∨ i = w1.heap.size) → W.heap.size < i := fun i hi => hi.elim (fun h => by have := hS i h; simp at this; omega) (fun h => by omega)
  obtain ⟨T', hT'⟩ : ∃ T' : Nat → Prop, T' = fun i => S i ∨ i = w1.heap.size := ⟨_, rfl⟩
  have hC2 : ¬ T' (w1.heap.size + 1) := by rw [hT']; exact HC.out.2
  rw [← hT'] at H
  have HTW := Lib.hid (show ∀ i, (T' i ∨ i = w1.heap.size + 1) → W.heap.size < i from fun i hi => hi.elim (fun h => hTW i (by rw [hT'] at h; exact h)) (fun h => by omega))
  have HW := Lib.hid (show ∀ (a b : World), Below W.heap.size W a → Mod (fun i => T' i ∨ i = w1.heap.size + 1) a b → Below W.heap.size W b from fun a b ha hm => Bm ha hm (fun i hi => Nat.le_of_lt (HTW.out i hi)))
  have HZn := Lib.hid (show ¬ (T' W.heap.size ∨ W.heap.size = w1.heap.size + 1) from fun h => by have := HTW.out _ h; omega)
  have HCT := Lib.hid hC2
  obtain ⟨rb, hrb⟩ : ∃ rb, rb = w1.heap.size := ⟨_, rfl⟩
  obtain ⟨g, hg⟩ : ∃ g, g = w1.heap.size + 1 := ⟨_, rfl⟩
  replace HC := Lib.hid HC.out.1
  have hna1 := nil_rnumber rb
  go_wp2_with fail
  rw [← hg, ← hrb]
  rw [← hrb] at H
  rw [← hg] at HC HW HZn HCT HTW
  have lgW : W.heap.size < g := by omega
  clear hrd hb1 hS hSl hB1 lW hTW hT' hC2 hrb hg
  refine (rnum_any T' rb g 0 1 27 (zPo 0 0 0 0).cs 0 ⟨ys, 0⟩ _ H.out HC.out HCT.out rfl).mono ?_
  rw [num0]
  rintro e w2 ⟨rfl, hr, hm, hk⟩
  obtain ⟨kd, hkd⟩ : ∃ kd, kd = uKd ys := ⟨_, rfl⟩
  replace H := Lib.hid hr
  replace HC := Lib.hid (show Blk w2 g 27 (zPo kd 0 0 0).cs by rw [hkd]; exact hk)
  replace HZ := Lib.hid (HZ.out.kept hm HZn.out)
  replace HB := Lib.hid (HW.out _ _ HB.out hm)
  have HKD := Lib.hid hkd
  have y0 : w2.cell? ⟨g, 0, none⟩ = some (.int .i64 kd) := HC.out.cell 0
  have lg2 := HC.out.lt
  clear hr hm hk hkd
  go_wp2_with fail
  refine (within_any kd 1 6 w2).mono ?_
  rintro e w' ⟨rfl, rfl⟩
  go_wp2_with fail
  refine (rfail_any T' rb (!wiB kd 1 6) 4 _ w2 H.out).mono ?_
  rintro e w3 ⟨rfl, hr, hm⟩
  replace H := Lib.hid (show RrAt w3 T' rb (uA ys) by unfold uA; rw [← HKD.out]; exact hr)
  replace HC := Lib.hid (HC.out.kept hm HCT.out)
  have hm' := hm.mono (T := fun i => T' i ∨ i = g) (fun i hi => .inl hi)
  replace HZ := Lib.hid (HZ.out.kept hm' HZn.out)
  replace HB := Lib.hid (HW.out _ _ HB.out hm')
  clear hr hm hm' y0 lg2
  go_wp2_with fail
  refine (rhead_any T' rb g (zPo kd 0 0 0) (uA ys) w3 H.out HC.out HCT.out ⟨rfl, rfl, rfl⟩).mono ?_
  rintro e w4 ⟨rfl, hr, hm, hk⟩
  replace H := Lib.hid (show RrAt w4 T' rb (uH ys) from hr)
  replace HC := Lib.hid (show Blk w4 g 27 (zPo kd ((uA ys).num 1) (((uA ys).nx 1).num 1) ((((uA ys).nx 1).nx 1).num 7)).cs from hk)
  replace HZ := Lib.hid (HZ.out.kept hm HZn.out)
  replace HB := Lib.hid (HW.out _ _ HB.out hm)
  clear hr hm hk
  go_wp2_with fail
  have HT4 := Lib.hid (show ∀ i, T' i → i < w4.heap.size from H.out.2.1)
  have HG4 := Lib.hid (show g < w4.heap.size from HC.out.lt)
  refine (rfields_all T' rb g kd _ _ _ (uH ys) w4 H.out HC.out HCT.out).mono ?_
  rintro e w5 ⟨P, l, d, ⟨rfl, hr, hm, hk⟩, hp, hn, hll, hdd⟩
  replace H := Lib.hid (show RrAt w5 T' rb (uB ys) by unfold uB; rw [← HKD.out]; exact hr)
  replace HC := Lib.hid hk
  have l45 := HB.out.size
  have HP := Lib.hid hp
  have HQ := Lib.hid (show P.norm = uP0 ys ∧ l.map En.ed = uL0 ys ∧ d = uD0 ys by unfold uP0 uL0 uD0; rw [← HKD.out]; exact ⟨hn, hll, hdd⟩)
  replace HZ := Lib.hid (HZ.out.kept hm HZn.out)
  replace HB := Lib.hid (HW.out _ _ HB.out hm)
  have HL4 := Lib.hid l45
  clear hr hm hk hp hn hll hdd l45
  obtain ⟨_, hTl, hokB, p5, S5, _, _, hb5, hrd5⟩ := H.out
  obtain ⟨b0, b1, f0, f1⟩ := blk2 hb5
  have lrb := hb5.lt
  have HRD := Lib.hid hrd5
  clear hTl hokB hb5 hrd5
  go_wp2_with fail
  refine (Wr.left_any S5 p5 _ w5 HRD.out).mono ?_
  rintro e wl ⟨rfl, nl, rfl⟩
  obtain ⟨w6, hw6⟩ : ∃ w6, w6 = w5.drewN nl := ⟨_, rfl⟩
  rw [← hw6]
  have hb6 : Below w5.heap.size w5 w6 := by rw [hw6]; exact BdN (B0 _) _
  have l6 := hb6.size
  replace H := Lib.hid (H.out.below hb6)
  replace HC := Lib.hid (HC.out.later hb6)
  replace HZ := Lib.hid (HZ.out.later hb6)
  replace HB := Lib.hid (Bt HB.out hb6)
  have HPl := Lib.hid HP.out.lt
  replace HP := Lib.hid (show PoAt w6 (fun i => w4.heap.size ≤ i ∧ i < w5.heap.size) P l d from HP.out.below hb6)
  clear hw6 hb6 HRD b0 b1 f0 f1 lrb
  obtain ⟨n, hn⟩ : ∃ n, n = (uB ys).l.length := ⟨_, rfl⟩
  rw [← hn]
  have HN := Lib.hid hn
  clear hn
  by_cases hn : 0 < n
  · have hn2 : (0 : Int) < (n : Int) := by omega
    go_wp2_with fail
    refine (rfail_any T' rb true 4 (uB ys) w6 H.out).mono ?_
    rintro e w7 ⟨rfl, hr, hm⟩
    replace H := Lib.hid (show RrAt w7 T' rb (uZ ys) by unfold uZ; rw [← HN.out, decide_eq_true (show (0 : Int) < (n : Int) by omega), Bool.true_or]; exact hr)
    have hm' := hm.mono (T := fun i => T' i ∨ i = g) (fun i hi => .inl hi)
    replace HC := Lib.hid (HC.out.kept hm HCT.out)
    replace HZ := Lib.hid (HZ.out.kept hm' HZn.out)
    replace HB := Lib.hid (HW.out _ _ HB.out hm')
    have HM7 := Lib.hid hm
    clear hm hm' hr
    have b0 := trivial; have b1 := trivial; have f0 := trivial; have f1 := trivial; have lrb := trivial
    clear b0 b1 f0 f1 lrb
    obtain ⟨_, _, _, p7, S7, _, _, hb7, _⟩ := H.out
    obtain ⟨b0, b1, f0, f1⟩ := blk2 hb7
    have lrb := hb7.lt
    obtain ⟨E, hE⟩ : ∃ E, E = (uZ ys).e := ⟨_, rfl⟩
    have HE := Lib.hid hE
    rw [← hE] at b1
    clear hb7 hE
    have lz := HZ.out.lt
    have lzW : W.heap.size < w7.heap.size := lz
    by_cases h0 : E = 0
    · subst h0
      obtain ⟨x0, x1, x2, x3, x4, x5, x6, x7, x8, x9, x10, x11, x12, x13⟩ := blk14 HC.out
      obtain ⟨z0, z1, z2, z3, z4, z5, z6, z7, z8, z9, z10, z11, z12, z13⟩ := blk14 HZ.out
      have fz := fun k => HZ.out.frozen k
      go_wp2_with fail
      obtain ⟨wz, hwz, hzb, hzm⟩ := blk_set14 HZ.out P
      rw [← hwz]
      have HZB := Lib.hid (And.intro hzb hzm)
      clear hwz hzb hzm x0 x1 x2 x3 x4 x5 x6 x7 x8 x9 x10 x11 x12 x13 z0 z1 z2 z3 z4 z5 z6 z7 z8 z9 z10 z11 z12 z13 fz b0 b1 f0 f1 lrb lz
      obtain ⟨x0, x1, x2, x3, x4, x5, x6, x7, x8, x9, x10, x11, x12, x13⟩ := blk14 HZB.out.1
      refine bodyPost_ret (v := .tuple #[.agg P.cs, .int .i64 0]) (by simp [results, Try.results30, go_sem, x0, x1, x2, x3, x4, x5, x6, x7, x8, x9, x10, x11, x12, x13]) rfl ?_
      have hfin := HZB.out.2.size
      refine ⟨P, l, d, by rw [← HE.out], ((HP.out.kept HM7.out (fun i hi h => by have := HT4.out i h; omega)).kept HZB.out.2 (fun i hi h => by have := HG4.out; omega)).mono (fun i hi => ⟨Nat.le_trans HL4.out hi.1, by have := HM7.out.size; omega⟩) (fun i hi => hi.2), HB.out.trans (HZB.out.2.below (Nat.le_of_lt lzW) (fun i hi => by subst hi; exact Nat.le_refl _)), .inl ⟨HE.out.symm, HQ.out⟩⟩
    · have hq : (E != 0) = true := by simpa using h0
      obtain ⟨z0, z1, z2, z3, z4, z5, z6, z7, z8, z9, z10, z11, z12, z13⟩ := blk14 HZ.out
      have fz := fun k => HZ.out.frozen k
      have hrw : W.heap.size < rb := HTW.out rb (.inl ‹T' rb›)
      have hne1 : rb ≠ W.heap.size := by omega
      have hne2 : W.heap.size ≠ rb := by omega
      go_wp2_with fail
      go_region_held3 (fun w' => w'.cell? ⟨rb, 1, none⟩ = some (.int .i64 E)) (first | go_keep | exact cell14 b1 hne1) (fail)
      go_wp2_with fail
      obtain ⟨wz, hwz, hzb, hzm⟩ := blkz14 HZ.out
      rw [← hwz]
      have HZB := Lib.hid (And.intro hzb hzm)
      clear hwz hzb hzm z0 z1 z2 z3 z4 z5 z6 z7 z8 z9 z10 z11 z12 z13 fz b0 b1 f0 f1 lrb lz
      obtain ⟨x0, x1, x2, x3, x4, x5, x6, x7, x8, x9, x10, x11, x12, x13⟩ := blk14 (show Blk wz.drew W.heap.size 27 (zPo 0 0 0 0).cs from HZB.out.1)
      refine bodyPost_ret (v := .tuple #[.agg (zPo 0 0 0 0).cs, .int .i64 E]) (by simp [results, Try.results30, go_sem, x0, x1, x2, x3, x4, x5, x6, x7, x8, x9, x10, x11, x12, x13]) rfl ?_
      exact ⟨zPo 0 0 0 0, [], [], by rw [HE.out], po_bare (fun i hi => hi.2) ⟨rfl, rfl, rfl⟩ ⟨rfl, rfl, rfl⟩, Bd (HB.out.trans (HZB.out.2.below (Nat.le_of_lt lzW) (fun i hi => by subst hi; exact Nat.le_refl _))), .inr ⟨by rw [← HE.out]; exact h0, rfl, rfl, rfl⟩⟩
  · have hn2 : ¬ (0 : Int) < (n : Int) := by omega
    obtain ⟨x0, x1, x2, x3, x4, x5, x6, x7, x8, x9, x10, x11, x12, x13⟩ := blk14 HC.out
    have lgc := HC.out.lt
    obtain ⟨F, hF⟩ : ∃ F, F = chkE P (l.map En.ed) := ⟨_, rfl⟩
    have HFF := Lib.hid (show F = chkE (uP0 ys) (uL0 ys) by rw [hF, ← HQ.out.1, ← HQ.out.2.1, chk_norm])
    go_wp2_with fail
    refine (check_any (fun i => w4.heap.size ≤ i ∧ i < w5.heap.size) P l w6 HP.out.rd HP.out.lt HP.out.len HP.out.most HP.out.dmost).mono ?_
    rw [← hF]
    rintro e w6' ⟨rfl, hb⟩
    replace H := Lib.hid (H.out.below hb)
    replace HC := Lib.hid (HC.out.later hb)
    replace HZ := Lib.hid (HZ.out.later hb)
    replace HB := Lib.hid (Bt HB.out hb)
    replace HP := Lib.hid (HP.out.below hb)
    replace l6 := Nat.le_trans l6 hb.size
    clear hb hF x0 x1 x2 x3 x4 x5 x6 x7 x8 x9 x10 x11 x12 x13 lgc
    go_wp2_with fail
    refine (rfail_any T' rb (F != 0) 4 (uB ys) w6' H.out).mono ?_
    rintro e w7 ⟨rfl, hr, hm⟩
    replace H := Lib.hid (show RrAt w7 T' rb (uZ ys) by unfold uZ; rw [← HN.out, decide_eq_false (show ¬ (0 : Int) < (n : Int) by omega), Bool.false_or, ← HFF.out]; exact hr)
    have hm' := hm.mono (T := fun i => T' i ∨ i = g) (fun i hi => .inl hi)
    replace HC := Lib.hid (HC.out.kept hm HCT.out)
    replace HZ := Lib.hid (HZ.out.kept hm' HZn.out)
    replace HB := Lib.hid (HW.out _ _ HB.out hm')
    have HM7 := Lib.hid hm
    clear hm hm' hr
    have b0 := trivial; have b1 := trivial; have f0 := trivial; have f1 := trivial; have lrb := trivial
    clear b0 b1 f0 f1 lrb
    obtain ⟨_, _, _, p7, S7, _, _, hb7, _⟩ := H.out
    obtain ⟨b0, b1, f0, f1⟩ := blk2 hb7
    have lrb := hb7.lt
    obtain ⟨E, hE⟩ : ∃ E, E = (uZ ys).e := ⟨_, rfl⟩
    have HE := Lib.hid hE
    rw [← hE] at b1
    clear hb7 hE
    have lz := HZ.out.lt
    have lzW : W.heap.size < w7.heap.size := lz
    by_cases h0 : E = 0
    · subst h0
      obtain ⟨x0, x1, x2, x3, x4, x5, x6, x7, x8, x9, x10, x11, x12, x13⟩ := blk14 HC.out
      obtain ⟨z0, z1, z2, z3, z4, z5, z6, z7, z8, z9, z10, z11, z12, z13⟩ := blk14 HZ.out
      have fz := fun k => HZ.out.frozen k
      go_wp2_with fail
      obtain ⟨wz, hwz, hzb, hzm⟩ := blk_set14 HZ.out P
      rw [← hwz]
      have HZB := Lib.hid (And.intro hzb hzm)
      clear hwz hzb hzm x0 x1 x2 x3 x4 x5 x6 x7 x8 x9 x10 x11 x12 x13 z0 z1 z2 z3 z4 z5 z6 z7 z8 z9 z10 z11 z12 z13 fz b0 b1 f0 f1 lrb lz
      obtain ⟨x0, x1, x2, x3, x4, x5, x6, x7, x8, x9, x10, x11, x12, x13⟩ := blk14 HZB.out.1
      refine bodyPost_ret (v := .tuple #[.agg P.cs, .int .i64 0]) (by simp [results, Try.results30, go_sem, x0, x1, x2, x3, x4, x5, x6, x7, x8, x9, x10, x11, x12, x13]) rfl ?_
      have hfin := HZB.out.2.size
      refine ⟨P, l, d, by rw [← HE.out], ((HP.out.kept HM7.out (fun i hi h => by have := HT4.out i h; omega)).kept HZB.out.2 (fun i hi h => by have := HG4.out; omega)).mono (fun i hi => ⟨Nat.le_trans HL4.out hi.1, by have := HM7.out.size; omega⟩) (fun i hi => hi.2), HB.out.trans (HZB.out.2.below (Nat.le_of_lt lzW) (fun i hi => by subst hi; exact Nat.le_refl _)), .inl ⟨HE.out.symm, HQ.out⟩⟩
    · have hq : (E != 0) = true := by simpa using h0
      obtain ⟨z0, z1, z2, z3, z4, z5, z6, z7, z8, z9, z10, z11, z12, z13⟩ := blk14 HZ.out
      have fz := fun k => HZ.out.frozen k
      have hrw : W.heap.size < rb := HTW.out rb (.inl ‹T' rb›)
      have hne1 : rb ≠ W.heap.size := by omega
      have hne2 : W.heap.size ≠ rb := by omega
      go_wp2_with fail
      go_region_held3 (fun w' => w'.cell? ⟨rb, 1, none⟩ = some (.int .i64 E)) (first | go_keep | exact cell14 b1 hne1) (fail)
      go_wp2_with fail
      obtain ⟨wz, hwz, hzb, hzm⟩ := blkz14 HZ.out
      rw [← hwz]
      have HZB := Lib.hid (And.intro hzb hzm)
      clear hwz hzb hzm z0 z1 z2 z3 z4 z5 z6 z7 z8 z9 z10 z11 z12 z13 fz b0 b1 f0 f1 lrb lz
      obtain ⟨x0, x1, x2, x3, x4, x5, x6, x7, x8, x9, x10, x11, x12, x13⟩ := blk14 (show Blk wz.drew W.heap.size 27 (zPo 0 0 0 0).cs from HZB.out.1)
      refine bodyPost_ret (v := .tuple #[.agg (zPo 0 0 0 0).cs, .int .i64 E]) (by simp [results, Try.results30, go_sem, x0, x1, x2, x3, x4, x5, x6, x7, x8, x9, x10, x11, x12, x13]) rfl ?_
      exact ⟨zPo 0 0 0 0, [], [], by rw [HE.out], po_bare (fun i hi => hi.2) ⟨rfl, rfl, rfl⟩ ⟨rfl, rfl, rfl⟩, Bd (HB.out.trans (HZB.out.2.below (Nat.le_of_lt lzW) (fun i hi => by subst hi; exact Nat.le_refl _))), .inr ⟨by rw [← HE.out]; exact h0, rfl, rfl, rfl⟩⟩
end Go.Proofs.Ytnphnaggamfoiaa
