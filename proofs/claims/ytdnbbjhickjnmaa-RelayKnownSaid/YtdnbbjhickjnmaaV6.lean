/- The statement RelayPacks: its loop's round. -/
import Derived.Test.YtdnbbjhickjnmaaV5
import Derived.Test.YtdnbbjhickjnmaaV3
namespace Go.Proofs.Ytdnbbjhickjnmaa
open Go.RowKit Go.WideShapes Go.ChangeShapes
set_option maxRecDepth 20000
set_option linter.unusedVariables false
set_option linter.unusedSimpArgs false

/-- A row of bytes of the call's own, that may be written. -/
def OwnAt (w : World) (g : Nat) (l : List Int) : Prop := ∃ rest : List Value, Blk w g 5 (bts l ++ rest).toArray
theorem own_at {w : World} {base n c : Nat} {A : Option Addr} {l : List Int} (h : w.ownsRow base 5 1 (.slice A n c) n (bts l)) (h0 : 0 < n) : ∃ g, A = some ⟨g, 0, none⟩ ∧ base ≤ g ∧ n ≤ c ∧ c ≤ maxLen ∧ OwnAt w g l := by
  rcases h.2 with ⟨_, hx⟩ | ⟨g, cap, cur, he, hb, hh, hnc, hcm, hcs, ht⟩
  · have := h.1; rw [hx] at this; simp at this; omega
  · injection he with e1 e2 e3
    subst e1 e3
    refine ⟨g, rfl, hb, hnc, hcm, cur.toList.drop (n * 1), ?_⟩
    rw [← ht, List.take_append_drop]
    exact hh
theorem OwnAt.cell {w : World} {g : Nat} {l : List Int} (h : OwnAt w g l) (j : Nat) (hj : j < l.length) : w.cell? ⟨g, j, none⟩ = some (.int .u8 l[j]) := by
  obtain ⟨rest, hb⟩ := h
  rw [hb.cell, List.getElem?_toArray, List.getElem?_append_left (by simpa [bts] using hj)]
  exact bts_getElem? l j hj
theorem OwnAt.free {w : World} {g : Nat} {l : List Int} (h : OwnAt w g l) (j : Nat) : w.frozen? ⟨g, j, none⟩ = false := by
  obtain ⟨rest, hb⟩ := h
  exact hb.frozen j
theorem OwnAt.set_ {w : World} {g : Nat} {l : List Int} (h : OwnAt w g l) (j : Nat) (hj : j < l.length) (x : Int) : OwnAt (w.setCell ⟨g, j, none⟩ (.int .u8 x)) g (l.set j x) := by
  obtain ⟨rest, hb⟩ := h
  refine ⟨rest, ?_⟩
  have := hb.set_ j (.int .u8 x)
  rw [List.setIfInBounds_toArray, List.set_append_left _ _ (by simpa [bts] using hj)] at this
  simpa [bts, List.map_set] using this
theorem OwnAt.below {w w' : World} {g : Nat} {l : List Int} (h : OwnAt w g l) (hb : Below w.heap.size w w') : OwnAt w' g l := by
  obtain ⟨rest, h⟩ := h
  exact ⟨rest, h.later hb⟩
theorem OwnAt.lt {w : World} {g : Nat} {l : List Int} (h : OwnAt w g l) : g < w.heap.size := by
  obtain ⟨rest, h⟩ := h
  exact h.lt
theorem OwnAt.rd {w : World} {g : Nat} {l : List Int} (h : OwnAt w g l) (n c : Nat) (hn : n = l.length) (hc : n ≤ c) (hm : c ≤ maxLen) : Rd w (fun i => i = g) 1 (.slice (some ⟨g, 0, none⟩) n c) l.length (bts l) := by
  subst hn
  exact ⟨by simp [bts], _, c, rfl, hc, hm, fun _ => ⟨g, 0, rfl, rfl, fun j u hu => by
    have hj : j < l.length := by have := (List.getElem?_eq_some_iff.1 hu).1; simpa [bts] using this
    rw [Nat.zero_add, h.cell j hj, ← hu, bts_getElem? l j hj]⟩⟩


def pkR (f t : Int) (bs : List Int) : List Int := if chkE f t bs.length = 0 then packL f t bs else []
theorem pkR_byt {f t : Int} {bs : List Int} (hb : Byt bs) : Byt (pkR f t bs) := by
  unfold pkR; split
  · rename_i h; exact packL_byt h hb
  · intro x hx; simp at hx
theorem pkR_len (f t : Int) (bs : List Int) : (pkR f t bs).length ≤ 5000 := by
  unfold pkR; split
  · rename_i h; have := (chk_ok h).2.2; rw [packL_len]; omega
  · simp
theorem pack_any (T : Nat → Prop) (f t : Int) (A : Option Addr) (c : Nat) (bs : List Int) (w : World) (hr : Rd w T 1 (.slice A bs.length c) bs.length (bts bs)) (hT : ∀ i, T i → i < w.heap.size) :
    Calls Try.prog 39 #[.agg #[.int .i64 f, .int .i64 t, .slice A bs.length c]] w fun e w' => ∃ A' c', e = .returned (.tuple #[.slice A' (pkR f t bs).length c', .int .i64 (chkE f t bs.length)]) ∧ Fresh w w' A' c' (pkR f t bs) := by
  unfold pkR
  by_cases hc : chkE f t bs.length = 0
  · rw [if_pos hc, hc]; exact pack_ok T f t A c bs w hr hT hc
  · rw [if_neg hc]
    refine (pack_bad f t A bs.length c w hc).mono ?_
    rintro e w' ⟨rfl, hb⟩
    exact ⟨none, 0, rfl, World.ownsRow_nil _ _ _ _, hb⟩
theorem refpack_any (T : Nat → Prop) (f t : Int) (A : Option Addr) (c : Nat) (bs : List Int) (w : World) (hr : Rd w T 1 (.slice A bs.length c) bs.length (bts bs)) (hT : ∀ i, T i → i < w.heap.size) :
    Calls Try.prog 40 #[.agg #[.int .i64 f, .int .i64 t, .slice A bs.length c]] w fun e w' => ∃ A' c', e = .returned (.tuple #[.slice A' (pkR f t bs).length c', .int .i64 (chkE f t bs.length)]) ∧ Fresh w w' A' c' (pkR f t bs) := by
  unfold pkR
  by_cases hc : chkE f t bs.length = 0
  · rw [if_pos hc, hc]; exact refpack_ok T f t A c bs w hr hT hc
  · rw [if_neg hc]
    refine (refpack_bad f t A bs.length c w hc).mono ?_
    rintro e w' ⟨rfl, hb⟩
    exact ⟨none, 0, rfl, World.ownsRow_nil _ _ _ _, hb⟩

set_option maxHeartbeats 4000000 in
theorem packs_walk (W : World) (f t : Int) (A : Option Addr) (c : Nat) (bs : List Int) (hbs : Byt bs) (hbl : bs.length ≤ 140737488351232) (hbr : Rd W (fun i => i < W.heap.size) 1 (.slice A bs.length c) bs.length (bts bs))
    (Ay : Option Addr) (cy : Nat) (ys : List Int) (hys : Byt ys) (hyl : ys.length ≤ 140737488351232) (hyr : Rd W (fun i => i < W.heap.size) 1 (.slice Ay ys.length cy) ys.length (bts ys)) :
    Calls Try.prog 11 #[.agg #[.int .i64 f, .int .i64 t, .slice A bs.length c], .slice Ay ys.length cy] W fun e w' => e = .returned (.bool true) ∧ Below W.heap.size W w' := by
  have HBS := Lib.hid (And.intro hbs hbr)
  have HYS := Lib.hid (And.intro hys hyr)
  have hpl := pkR_len f t bs
  have hpb := pkR_byt (f := f) (t := t) hbs
  obtain ⟨E, hE⟩ : ∃ E, E = chkE f t bs.length := ⟨_, rfl⟩
  obtain ⟨ps, hps⟩ : ∃ ps, ps = pkR f t bs := ⟨_, rfl⟩
  rw [← hps] at hpl hpb
  have HP := Lib.hid hpb
  have HPS := Lib.hid (And.intro hps hE)
  have hEE : (E != E) = false := by simp
  clear hbs hbr hys hyr hpb hps hE
  go_enter Try.func11, Try.ntmps11
  go_wp2_with fail
  refine (refcopy_any _ A c f t bs _ (HBS.out.2.below (Ba (B0 W) _) (fun i hi => hi)) (fun i hi => by simp; omega) (by omega)).mono ?_
  rintro e w1 ⟨A1, c1, rfl, hf1⟩
  have HB1 := Lib.hid ((Blk.new W 31 #[.int .i64 f, .int .i64 t, .slice A bs.length c]).later hf1.kept)
  have HW1 := Lib.hid (Bt (Ba (B0 W) (.cells #[.int .i64 f, .int .i64 t, .slice A bs.length c] 31)) hf1.kept)
  have HF1 := Lib.hid hf1.own
  have lb1 := HB1.out.lt
  obtain ⟨x0, x1, x2, g0, g1, g2⟩ := blk3 HB1.out
  clear hf1
  go_wp2_with fail
  refine (pack_any (fun i => i < w1.heap.size) f t A1 c1 bs _ ((Rd.of_own (HF1.out.alloc _)).mono (fun i hi => own_lt HF1.out i hi)) (fun i hi => by simp; omega)).mono ?_
  rw [← HPS.out.1, ← HPS.out.2]
  rintro e w2 ⟨A2, c2, rfl, hf2⟩
  have HI2 := Lib.hid ((Blk.new w1 31 #[.int .i64 f, .int .i64 t, .slice A1 bs.length c1]).later hf2.kept)
  have HW2 := Lib.hid (Bt (Ba HW1.out (.cells #[.int .i64 f, .int .i64 t, .slice A1 bs.length c1] 31)) hf2.kept)
  have HB2 := Lib.hid ((HB1.out.alloc (.cells #[.int .i64 f, .int .i64 t, .slice A1 bs.length c1] 31)).later hf2.kept)
  have HF12 := Lib.hid (own_below (HF1.out.alloc (.cells #[.int .i64 f, .int .i64 t, .slice A1 bs.length c1] 31)) hf2.kept)
  have HF2 := Lib.hid hf2.own
  have lb2 := HB2.out.lt
  have li2 := HI2.out.lt
  clear x0 x1 x2 g0 g1 g2 hf2
  obtain ⟨x0, x1, x2, g0, g1, g2⟩ := blk3 HB2.out
  obtain ⟨y0, y1, y2, v0, v1, v2⟩ := blk3 HI2.out
  go_wp2_with fail
  refine (refpack_any (fun i => i < W.heap.size) f t A c bs w2 (HBS.out.2.below HW2.out (fun i hi => hi)) (fun i hi => Nat.lt_of_lt_of_le hi HW2.out.size)).mono ?_
  rw [← HPS.out.1, ← HPS.out.2]
  rintro e w3 ⟨A3, c3, rfl, hf3⟩
  have HI3 := Lib.hid (HI2.out.later hf3.kept)
  have HW3 := Lib.hid (Bt HW2.out hf3.kept)
  have HB3 := Lib.hid (HB2.out.later hf3.kept)
  have HF13 := Lib.hid (own_below HF12.out hf3.kept)
  have HF23 := Lib.hid (own_below HF2.out hf3.kept)
  have HF3 := Lib.hid hf3.own
  clear x0 x1 x2 g0 g1 g2 y0 y1 y2 v0 v1 v2 hf3
  go_wp2_with fail
  refine (eq_bytes _ _ _ _ ps ps w3 (Rd.of_own HF23.out) (Rd.of_own HF3.out)).mono ?_
  rintro e w4 ⟨rfl, hw4⟩
  rw [eqB_self]
  have hb4 : Below w3.heap.size w3 w4 := by obtain ⟨n, rfl⟩ := hw4; exact BdN (B0 _) n
  have HI4 := Lib.hid (HI3.out.later hb4)
  have HW4 := Lib.hid (Bt HW3.out hb4)
  have HB4 := Lib.hid (HB3.out.later hb4)
  have HF14 := Lib.hid (own_below HF13.out hb4)
  have HF34 := Lib.hid (own_below HF3.out hb4)
  obtain ⟨x0, x1, x2, g0, g1, g2⟩ := blk3 HB4.out
  obtain ⟨y0, y1, y2, v0, v1, v2⟩ := blk3 HI4.out
  clear hw4 hb4
  go_wp2_with fail
  refine (same_any (fun i => i < w4.heap.size) (fun i => i < W.heap.size) f t f t A1 A c1 c bs bs w4 ((Rd.of_own HF14.out).mono (fun i hi => own_lt HF14.out i hi)) (fun i hi => hi) (HBS.out.2.below HW4.out (fun i hi => hi)) (fun i hi => Nat.lt_of_lt_of_le hi HW4.out.size)).mono ?_
  rintro e w5 ⟨rfl, hb5⟩
  rw [same_self]
  have HW5 := Lib.hid (Bt HW4.out hb5)
  have HF35 := Lib.hid (own_below HF34.out hb5)
  clear x0 x1 x2 g0 g1 g2 y0 y1 y2 v0 v1 v2 hb5
  go_wp2_with fail
  have HL0 := Lib.hid (Blk.new w5 29 #[.slice Ay ys.length cy, .slice A3 ps.length c3])
  have HW0 := Lib.hid (Ba HW5.out (.cells #[.slice Ay ys.length cy, .slice A3 ps.length c3] 29))
  have HF0 := Lib.hid (HF35.out.alloc (.cells #[.slice Ay ys.length cy, .slice A3 ps.length c3] 29))
  generalize hw0 : w5.alloc (.cells #[.slice Ay ys.length cy, .slice A3 ps.length c3] 29) = w0 at *
  have HCUR := Lib.hid (fun (j : Nat) (hj : j < 2) => (show ∃ (Ac : Option Addr) (cc : Nat) (zs : List Int), w0.cell? ⟨w5.heap.size, j, none⟩ = some (.slice Ac zs.length cc) ∧ Rd w0 (fun i => i < w0.heap.size) 1 (.slice Ac zs.length cc) zs.length (bts zs) ∧ Byt zs ∧ zs.length ≤ 140737488351232 from by
    obtain rfl | rfl : j = 0 ∨ j = 1 := by omega
    · exact ⟨Ay, cy, ys, HL0.out.cell 0, (HYS.out.2.below HW0.out (fun i hi => hi)).mono (fun i hi => Nat.lt_of_lt_of_le hi HW0.out.size), HYS.out.1, hyl⟩
    · exact ⟨A3, c3, ps, HL0.out.cell 1, (Rd.of_own HF0.out).mono (fun i hi => own_lt HF0.out i hi), HP.out, by omega⟩))
  have lq := HL0.out.lt
  clear hw0
  go_loopw [49] (fun i wr => ∃ j : Nat, j ≤ 2 ∧ i = .int .i64 j ∧ Below w0.heap.size w0 wr) (fun i _ => 2 - (intOf i).toNat)
  case atStart => exact ⟨0, by omega, rfl, B0 _⟩
  case round =>
    obtain ⟨j, hj, rfl, hbr⟩ := hrel
    have HBR := Lib.hid hbr
    obtain ⟨wo, rfl⟩ : ∃ wo, wo = wr := ⟨_, rfl⟩
    by_cases hlt : j < 2
    · obtain ⟨Ac, cc, zs, hcell, hzr, hzb, hzl⟩ := HCUR.out j hlt
      have hlt2 : (j : Int) < 2 := by omega
      have c0 : wo.cell? ⟨w5.heap.size, j, none⟩ = some (.slice Ac zs.length cc) := (hbr.cell (p := ⟨w5.heap.size, j, none⟩) lq).trans hcell
      have HZ := Lib.hid (And.intro (hzr.below hbr (fun i hi => hi)) hzb)
      have lz := hbr.size
      clear hbr hcell hzr hzb
      go_wp2_with fail
      refine (copy_bytes _ _ zs _ HZ.out.1 (by omega)).mono ?_
      rintro e v1 ⟨A4, c4, rfl, hf4⟩
      have HD1 := Lib.hid hf4.own
      have HV1 := Lib.hid (Bt HBR.out hf4.kept)
      have HZ1 := Lib.hid (HZ.out.1.below hf4.kept (fun i hi => Nat.lt_of_lt_of_le hi lz))
      have hcap := hf4.rd.cap
      unfold maxLen at hcap
      obtain ⟨_, hc41, hc42⟩ := hcap
      have lv1 := hf4.kept.size
      clear c0 hf4
      go_wp2_with fail
      refine (un_any _ A4 c4 zs v1 (Rd.of_own HD1.out) (fun i hi => own_lt HD1.out i hi) HZ.out.2 hzl).mono ?_
      rintro e v2 ⟨A5, c5, rfl, hf5⟩
      obtain ⟨F, hF⟩ : ∃ F, F = unF zs := ⟨_, rfl⟩
      obtain ⟨T, hT⟩ : ∃ T, T = unT zs := ⟨_, rfl⟩
      obtain ⟨B, hB⟩ : ∃ B, B = unB zs := ⟨_, rfl⟩
      obtain ⟨G, hG⟩ : ∃ G, G = unE zs := ⟨_, rfl⟩
      rw [← hB] at hf5
      rw [← hF, ← hT, ← hB, ← hG]
      have HU := Lib.hid (And.intro hF (And.intro hT (And.intro hB hG)))
      have HM2 := Lib.hid hf5.own
      have HD2 := Lib.hid (own_below HD1.out hf5.kept)
      have HV2 := Lib.hid (Bt HV1.out hf5.kept)
      have HZ2 := Lib.hid (HZ1.out.below hf5.kept (fun i hi => by omega))
      have lv2 := hf5.kept.size
      have hGG : (G != G) = false := by simp
      clear hF hT hB hG hf5
      go_wp2_with fail
      refine (refun_any _ Ac cc zs _ (HZ2.out.below (Ba (B0 v2) (.cells #[.int .i64 F, .int .i64 T, .slice A5 B.length c5] 31)) (fun i hi => by omega)) (fun i hi => by simp; omega) HZ.out.2 hzl).mono ?_
      rintro e v3 ⟨A6, c6, rfl, hf6⟩
      rw [← HU.out.2.2.1] at hf6
      rw [← HU.out.1, ← HU.out.2.1, ← HU.out.2.2.1, ← HU.out.2.2.2]
      have KM3 := Lib.hid ((Blk.new v2 31 #[.int .i64 F, .int .i64 T, .slice A5 B.length c5]).later hf6.kept)
      have HM3 := Lib.hid (own_below (HM2.out.alloc (.cells #[.int .i64 F, .int .i64 T, .slice A5 B.length c5] 31)) hf6.kept)
      have HD3 := Lib.hid (own_below (HD2.out.alloc (.cells #[.int .i64 F, .int .i64 T, .slice A5 B.length c5] 31)) hf6.kept)
      have HV3 := Lib.hid (Bt (Ba HV2.out (.cells #[.int .i64 F, .int .i64 T, .slice A5 B.length c5] 31)) hf6.kept)
      have HZ3 := Lib.hid (HZ2.out.below (Bt (Ba (B0 v2) (.cells #[.int .i64 F, .int .i64 T, .slice A5 B.length c5] 31)) hf6.kept) (fun i hi => by omega))
      have HN3 := Lib.hid hf6.own
      have lv3 := hf6.kept.size
      simp only [World.size_alloc] at lv3
      have lk3 := KM3.out.lt
      obtain ⟨x0, x1, x2, g0, g1, g2⟩ := blk3 KM3.out
      have hzz : ((zs.length : Int) == (zs.length : Int)) = true := by simp
      clear hf6
      go_wp2_with fail
      refine (same_any (fun i => i < v3.heap.size) (fun i => i < v3.heap.size) F T F T A5 A6 c5 c6 B B _ (((Rd.of_own (HM3.out.alloc (.cells #[.int .i64 F, .int .i64 T, .slice A6 B.length c6] 31)))).mono (fun i hi => own_lt HM3.out i hi)) (fun i hi => by simp; omega) (((Rd.of_own (HN3.out.alloc (.cells #[.int .i64 F, .int .i64 T, .slice A6 B.length c6] 31)))).mono (fun i hi => own_lt HN3.out i hi)) (fun i hi => by simp; omega)).mono ?_
      rintro e v4 ⟨rfl, hb4⟩
      rw [same_self]
      have KN4 := Lib.hid ((Blk.new v3 31 #[.int .i64 F, .int .i64 T, .slice A6 B.length c6]).later hb4)
      have KM4 := Lib.hid ((KM3.out.alloc (.cells #[.int .i64 F, .int .i64 T, .slice A6 B.length c6] 31)).later hb4)
      have HM4 := Lib.hid (own_below (HM3.out.alloc (.cells #[.int .i64 F, .int .i64 T, .slice A6 B.length c6] 31)) hb4)
      have HN4 := Lib.hid (own_below (HN3.out.alloc (.cells #[.int .i64 F, .int .i64 T, .slice A6 B.length c6] 31)) hb4)
      have HD4 := Lib.hid (own_below (HD3.out.alloc (.cells #[.int .i64 F, .int .i64 T, .slice A6 B.length c6] 31)) hb4)
      have HV4 := Lib.hid (Bt (Ba HV3.out (.cells #[.int .i64 F, .int .i64 T, .slice A6 B.length c6] 31)) hb4)
      have HZ4 := Lib.hid (HZ3.out.below (Bt (Ba (B0 v3) (.cells #[.int .i64 F, .int .i64 T, .slice A6 B.length c6] 31)) hb4) (fun i hi => by omega))
      clear x0 x1 x2 g0 g1 g2 hb4
      go_wp2_with fail
      refine (eq_bytes _ _ _ _ zs zs v4 HZ4.out (Rd.of_own HD4.out)).mono ?_
      rintro e v5 ⟨rfl, hw5⟩
      rw [eqB_self]
      have hb5 : Below v4.heap.size v4 v5 := by obtain ⟨n, rfl⟩ := hw5; exact BdN (B0 _) n
      have KN5 := Lib.hid (KN4.out.later hb5)
      have KM5 := Lib.hid (KM4.out.later hb5)
      have HM5 := Lib.hid (own_below HM4.out hb5)
      have HN5 := Lib.hid (own_below HN4.out hb5)
      have HD5 := Lib.hid (own_below HD4.out hb5)
      have HV5 := Lib.hid (Bt HV4.out hb5)
      clear hw5 hb5
      have HG5 := Lib.hid (fun (h : 0 < zs.length) => own_at HD5.out h)
      go_wp2_with fail
      go_loopw [17] (fun i wr => ∃ (k : Nat) (m : List Int), k ≤ zs.length ∧ i = .int .i64 k ∧ m.length = zs.length ∧ Byt m ∧ (∀ g, A4 = some ⟨g, 0, none⟩ → 0 < zs.length → OwnAt wr g m) ∧ Mod (fun i => (Value.slice A4 zs.length c4).ownBlock = some i) v5 wr) (fun i _ => zs.length - (intOf i).toNat)
      case atStart => exact ⟨0, zs, Nat.zero_le _, rfl, rfl, HZ.out.2, fun g hg h0 => by obtain ⟨g', hg', _, _, _, ho⟩ := HG5.out h0; rw [hg] at hg'; injection hg' with hg'; injection hg' with hg'; subst hg'; exact ho, Mod.refl _ _⟩
      case round =>
        obtain ⟨k, m, hk, rfl, hml, hmb, hO, hm⟩ := hrel
        have HM := Lib.hid hm
        by_cases hkz : k < zs.length
        · obtain ⟨g, hA4, _, _, _, _⟩ := HG5.out (by omega)
          subst hA4
          replace hO := hO g rfl (by omega)
          have hkm : k < m.length := by omega
          have h2 : (k : Int) < (zs.length : Int) := by omega
          have ha := hO.cell k hkm
          have hf := hO.free k
          have hx := hmb m[k] (List.getElem_mem hkm)
          obtain ⟨x, hxx⟩ : ∃ x, x = m[k] := ⟨_, rfl⟩
          rw [← hxx] at ha hx
          obtain ⟨hx0, hx1⟩ := hx
          have HS := Lib.hid (hO.set_ k hkm ((x + 1) % 256))
          have HML := Lib.hid hml
          have HMB := Lib.hid (show Byt (m.set k ((x + 1) % 256)) from fun y hy => by rcases List.mem_or_eq_of_mem_set hy with h | h; exact hmb y h; omega)
          clear hm hO hml hmb hxx
          go_wp2_with fail
          go_roundw
          case rel => exact ⟨k + 1, m.set k ((x + 1) % 256), by omega, by go_num, by rw [List.length_set]; exact HML.out, HMB.out, fun g' hg' _ => by injection hg' with hg'; injection hg' with hg'; subst hg'; exact HS.out, HM.out.setCell (p := ⟨g, k, none⟩) (.inl rfl) _⟩
          case measure => simp [intOf]; omega
        · have h2 : ¬ (k : Int) < (zs.length : Int) := by omega
          clear hm hO hml hmb
          have hd1 := fun i hi => own_lt HD1.out i hi
          have HM6 := Lib.hid (own_mod HM5.out HM.out (fun i hi h => by have := hd1 i h; have := own_ge HM2.out i hi; omega) (Nat.le_refl _))
          have HN6 := Lib.hid (own_mod HN5.out HM.out (fun i hi h => by have := hd1 i h; have := own_ge HN3.out i hi; simp at this; omega) (Nat.le_refl _))
          have KM6 := Lib.hid (KM5.out.kept HM.out (fun h => by have := hd1 _ h; omega))
          have KN6 := Lib.hid (KN5.out.kept HM.out (fun h => by have := hd1 _ h; omega))
          have HV6 := Lib.hid (HV5.out.trans (HM.out.below (B := w0.heap.size) HV5.out.size (fun i hi => Nat.le_trans lz (own_ge HD1.out i hi))))
          obtain ⟨x0, x1, x2, g0, g1, g2⟩ := blk3 KM6.out
          obtain ⟨y0, y1, y2, t0, t1, t2⟩ := blk3 KN6.out
          have lm6 := KM6.out.lt
          have ln6 := KN6.out.lt
          go_wp2_with fail
          refine (same_any (fun i => i < wr.heap.size) (fun i => i < wr.heap.size) F T F T A5 A6 c5 c6 B B wr ((Rd.of_own HM6.out).mono (fun i hi => own_lt HM6.out i hi)) (fun i hi => hi) ((Rd.of_own HN6.out).mono (fun i hi => own_lt HN6.out i hi)) (fun i hi => hi)).mono ?_
          rintro e v7 ⟨rfl, hb7⟩
          rw [same_self]
          have HV7 := Lib.hid (Bt HV6.out hb7)
          clear x0 x1 x2 g0 g1 g2 y0 y1 y2 t0 t1 t2 hb7
          go_wp2_with fail
          go_roundw
          case rel => exact ⟨j + 1, by omega, by go_num, HV7.out⟩
          case measure => simp [intOf]; omega
    · have h2 : ¬ (j : Int) < 2 := by omega
      clear hbr
      go_wp2_with fail
      refine (works_any wo).mono ?_
      rintro e v8 ⟨rfl, hb8⟩
      have HV8 := Lib.hid (Bt HW0.out (Bt HBR.out hb8))
      clear hb8
      go_wp2_with fail
      go_ret
      exact ⟨rfl, HV8.out⟩

theorem relayPacks_walk {H : Type} {enc : TypeId × Value → H} (W : World) {base : Nat} {sp : Nat → Bool} {held : Bool} {v1 : Value} {d1 : DataW H} {p1 : List MemPlace} (hv1 : Value.okWide Try.prog W .any base 31 v1) (ht1 : DataW.Trod enc Try.prog W 0 sp held 31 v1 d1 p1) (hz1 : ∀ n ∈ d1.weights Try.prog 31, n ≤ reachBytes)
    {base2 : Nat} {sp2 : Nat → Bool} {held2 : Bool} {v2 : Value} {d2 : DataW H} {p2 : List MemPlace} (hv2 : Value.okWide Try.prog W .any base2 29 v2) (ht2 : DataW.Trod enc Try.prog W 0 sp2 held2 29 v2 d2 p2) (hz2 : ∀ n ∈ d2.weights Try.prog 29, n ≤ reachBytes) :
    Calls Try.prog 11 #[v1, v2] W fun e w' => e = .returned (.bool true) ∧ Below W.heap.size W w' := by
  obtain ⟨f, t, A, c, bs, rfl, h1, h2, h3⟩ := open_farg hv1 ht1 hz1
  obtain ⟨Ay, cy, ys, rfl, h4, h5, h6⟩ := open_bytes hv2 ht2 hz2
  exact packs_walk W f t A c bs h1 h2 h3 Ay cy ys h4 h5 h6
end Go.Proofs.Ytdnbbjhickjnmaa
