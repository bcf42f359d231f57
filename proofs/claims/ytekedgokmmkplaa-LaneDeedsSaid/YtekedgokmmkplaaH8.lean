/- LaneDeeds: one deed, of both lanes. -/
import Derived.Test.YtekedgokmmkplaaH7
import Derived.Deep.Cut
import Derived.Deep.CutBlock
import Derived.Deep.CutRange
namespace Go.Proofs.Ytekedgokmmkplaa
open Go.RowKit
set_option maxRecDepth 20000
set_option linter.unusedVariables false
set_option linter.unusedSimpArgs false

/-- A slice that may be written to, its block in T. -/
def SoftAt (w : World) (T : Nat → Prop) (v : Value) (n : Nat) : Prop :=
  n = 0 ∨ ∃ g cap cs, v = .slice (some ⟨g, 0, none⟩) n cap ∧ T g ∧ n ≤ cap ∧ Blk w g 5 cs ∧ n ≤ cs.size ∧ ∀ i, i < n → ∃ x, cs[i]? = some (.int .u8 x)
theorem SoftAt.of_own {w : World} {base : Nat} {v : Value} {bs : List Int} (h : w.ownsRow base 5 1 v bs.length (bts bs)) : SoftAt w (fun k => v.ownBlock = some k) v bs.length := by
  rcases h.2 with ⟨rfl, h0⟩ | ⟨g, cap, cur, rfl, hb, hh, hnc, hcm, hcs, ht⟩
  · exact .inl h0
  · refine .inr ⟨g, cap, cur, rfl, rfl, hnc, hh, by omega, fun i hi => ?_⟩
    have e : (cur.toList.take (bs.length * 1))[i]? = (bts bs)[i]? := by rw [ht]
    rw [List.getElem?_take, if_pos (by omega), bts_getElem? bs i hi] at e
    exact ⟨_, by simpa using e⟩
theorem SoftAt.mono {w : World} {T U : Nat → Prop} {v : Value} {n : Nat} (h : SoftAt w T v n) (hd : ∀ i, T i → U i) : SoftAt w U v n := by
  rcases h with h | ⟨g, cap, cs, h1, h2, h3⟩
  · exact .inl h
  · exact .inr ⟨g, cap, cs, h1, hd _ h2, h3⟩
theorem SoftAt.kept {w w' : World} {T U : Nat → Prop} {v : Value} {n : Nat} (h : SoftAt w T v n) (hm : Mod U w w') (hd : ∀ i, T i → ¬ U i) : SoftAt w' T v n := by
  rcases h with h | ⟨g, cap, cs, h1, h2, h3, h4, h5⟩
  · exact .inl h
  · exact .inr ⟨g, cap, cs, h1, h2, h3, h4.kept hm (hd _ h2), h5⟩

theorem SoftAt.set {w : World} {T : Nat → Prop} {A : Option Addr} {n c k : Nat} (h : SoftAt w T (.slice A n c) n) (hk : k < n) : ∃ g x, A = some ⟨g, 0, none⟩ ∧ T g ∧ n ≤ c ∧ w.cell? ⟨g, k, none⟩ = some (.int .u8 x) ∧ w.frozen? ⟨g, k, none⟩ = false ∧ g < w.heap.size ∧ ∀ y, SoftAt (w.setCell ⟨g, k, none⟩ (.int .u8 y)) T (.slice A n c) n := by
  rcases h with h | ⟨g, cap, cs, he, hg, hcap, hblk, hsz, hcs⟩
  · omega
  · injection he with e1 e2 e3
    subst e1 e3
    obtain ⟨x, hx⟩ := hcs k hk
    refine ⟨g, x, rfl, hg, hcap, (hblk.cell k).trans hx, hblk.frozen k, hblk.lt, fun y => .inr ⟨g, _, cs.setIfInBounds k (.int .u8 y), rfl, hg, hcap, hblk.set_ k _, by simpa using hsz, fun i hi => ?_⟩⟩
    by_cases e : i = k
    · subst e; exact ⟨y, by rw [Array.getElem?_setIfInBounds_self_of_lt (by omega)]⟩
    · rw [Array.getElem?_setIfInBounds_ne (by omega)]; exact hcs i hi

theorem putL_le (ds : List Dg) (f t : Int) (bs : List Int) : (putL ds f t bs).length ≤ ds.length + 1 := by
  unfold putL
  split <;> simp
theorem dblL_le (ds : List Dg) (n : Int) : (dblL ds n).length ≤ ds.length + 1 := by
  unfold dblL
  split
  · exact putL_le _ _ _ _
  · omega
theorem takL_le (ds : List Dg) (n : Int) : (takL ds n).length ≤ ds.length := by
  unfold takL
  split
  · exact List.length_eraseIdx_le ..
  · exact Nat.le_refl _
theorem takL_all {ds : List Dg} (h : ∀ d ∈ ds, d.bs.length ≤ 140737488355328) (n : Int) : ∀ d ∈ takL ds n, d.bs.length ≤ 140737488355328 := by
  unfold takL
  split
  · exact fun d hd => h d (List.mem_of_mem_eraseIdx hd)
  · exact h
def Deeded (B a b o : Nat) (ds : List Dg) (w : World) (e : Ending) (w' : World) : Prop :=
  e = .returned (.bool true) ∧ ∃ ds' sd', Tri B No w' a ds' sd' b ds' sd' o ∧ ds'.length ≤ ds.length + 1 ∧ (∀ d ∈ ds', d.bs.length ≤ 140737488355328) ∧ 0 ≤ sd' ∧ sd' < 9223372036854775808 ∧ Mod (fun i => B ≤ i) w w'

set_option maxHeartbeats 8000000 in
theorem deed_any (S : Nat → Prop) (B a b o : Nat) (ds : List Dg) (sd : Int) (kind n f t : Int) (xA : Option Addr) (xc : Nat) (bs : List Int) (w : World) (hT : Tri B No w a ds sd b ds sd o) (hX : Rd w S 1 (.slice xA bs.length xc) bs.length (bts bs)) (hS : ∀ i, S i → i < B)
    (hlen : ds.length ≤ 3000) (hds : ∀ d ∈ ds, d.bs.length ≤ 140737488355328) (s0 : 0 ≤ sd) (s1 : sd < 9223372036854775808) (hbl : bs.length ≤ 140737488351232) (hn : n < 9223372036854775808) :
    Calls Try.prog 14 #[.pointer (some ⟨a, 0, none⟩), .pointer (some ⟨b, 0, none⟩), .agg #[.int .i64 kind, .int .i64 n, .int .i64 f, .int .i64 t, .slice xA bs.length xc]] w (Deeded B a b o ds w) := by
  have HT := Lib.hid hT
  have HX := Lib.hid hX
  have HS := Lib.hid hS
  have HDS := Lib.hid hds
  have hBw := hT.1
  have hbr := bringF_lt kind 5 (by omega)
  obtain ⟨kk, hkk⟩ : ∃ kk, kk = bringF kind 5 := ⟨_, rfl⟩
  rw [← hkk] at hbr
  obtain ⟨hb0, hb5⟩ := hbr
  have HKK := Lib.hid hkk
  clear hT hX hS hds hkk
  go_enter Try.func14, Try.ntmps14
  go_wp2_with fail
  refine (refcopy_any S (.slice xA bs.length xc) f t bs _ (HX.out.below (Ba (B0 w) _) (fun i hi => by have := HS.out i hi; omega)) (fun i hi => by have := HS.out i hi; simp; omega) (by omega)).mono ?_
  rintro e w1 ⟨A1, c1, rfl, HF⟩
  have hbd := (Blk.new w 32 #[.int .i64 kind, .int .i64 n, .int .i64 f, .int .i64 t, .slice xA bs.length xc]).later HF.kept
  have g0 := hbd.cell 0
  have g1 := hbd.cell 1
  have g2 := hbd.cell 2
  have g3 := hbd.cell 3
  have g4 := hbd.cell 4
  simp only [List.getElem?_toArray, List.getElem?_cons_succ, List.getElem?_cons_zero] at g0 g1 g2 g3 g4
  have lbd := hbd.lt
  have HBD := Lib.hid hbd
  have HFF := Lib.hid HF
  have HB1 := Lib.hid (Bt (Ba (B0 w) (.cells #[.int .i64 kind, .int .i64 n, .int .i64 f, .int .i64 t, .slice xA bs.length xc] 32)) HF.kept)
  clear HF hbd
  have hT2 : Tri B (fun i => w.heap.size ≤ i ∧ i ≤ w1.heap.size) (w1.alloc (.cells #[.int .i64 f, .int .i64 t, .slice A1 bs.length c1] 30)) a ds sd b ds sd o := (HT.out.keep (L := fun i => w.heap.size ≤ i ∧ i ≤ w1.heap.size) (Ba HB1.out (.cells #[.int .i64 f, .int .i64 t, .slice A1 bs.length c1] 30)) (fun i hi => .inl (by simp; omega)))
  have HT2 := Lib.hid hT2
  have HBD2 := Lib.hid (HBD.out.alloc (.cells #[.int .i64 f, .int .i64 t, .slice A1 bs.length c1] 30))
  have HR2 := Lib.hid (HFF.out.rd1 (.cells #[.int .i64 f, .int .i64 t, .slice A1 bs.length c1] 30))
  have lb1 := HB1.out.size
  clear hT2
  go_upto_block 0 with (go_at_call 27; refine (bring_any kind 5 _ (by omega)).mono ?_; rintro e w' ⟨rfl, rfl⟩; rw [← HKK.out])
  go_cut [8, 9] from 10 to 75 (fun e1 e2 wx => ∃ (ee : Int) (ds' : List Dg) (sd' : Int), e1 = .int .i64 ee ∧ e2 = .int .i64 ee ∧ Tri B (fun i => w.heap.size ≤ i ∧ i ≤ w1.heap.size) wx a ds' sd' b ds' sd' o ∧ ds'.length ≤ ds.length + 1 ∧ (∀ d ∈ ds', d.bs.length ≤ 140737488355328) ∧ 0 ≤ sd' ∧ sd' < 9223372036854775808 ∧ Mod (Stays B (fun i => w.heap.size ≤ i ∧ i ≤ w1.heap.size)) (w1.alloc (.cells #[.int .i64 f, .int .i64 t, .slice A1 bs.length c1] 30)) wx)
  case first =>
    have hkk : kk = 0 ∨ kk = 1 ∨ kk = 2 ∨ kk = 3 ∨ kk = 4 := by omega
    rcases hkk with hk | hk | hk | hk | hk
    · subst hk
      go_wp2_with fail
      refine (call_a HT2.out (fun S h => put_any S _ a ds sd f t A1 c1 bs _ h HR2.out (fun i hi => by simp; omega) (by omega))).mono ?_
      rintro e w3 ⟨rfl, ht3, hm3⟩
      have hbd3 := (HBD2.out.kept hm3 (fun h => h.2 ⟨by omega, by omega⟩))
      have k2 := hbd3.cell 2
      have k3 := hbd3.cell 3
      have k4 := hbd3.cell 4
      simp only [List.getElem?_toArray, List.getElem?_cons_succ, List.getElem?_cons_zero] at k2 k3 k4
      have lbd3 := hbd3.lt
      have HX3 := Lib.hid ((HX.out.below (Ba HB1.out (.cells #[.int .i64 f, .int .i64 t, .slice A1 bs.length c1] 30)) (fun i hi => by have := HS.out i hi; omega)).kept hm3 (fun i hi h => by have := HS.out i hi; have := h.1; omega))
      have ls3 := hm3.size
      have HT3 := Lib.hid ht3
      have HM3 := Lib.hid hm3
      clear g0 g1 g2 g3 g4 ht3 hm3 hbd3
      go_wp2_with fail
      refine (call_b HT3.out (fun S' h => rlput_any S' S b ds sd f t xA xc bs _ h (by omega) HX3.out (fun i hi => by have := HS.out i hi; simp at ls3; omega) (by omega))).mono ?_
      rintro e w4 ⟨rfl, ht4, hm4⟩
      have HT4 := Lib.hid ht4
      have HM4 := Lib.hid (HM3.out.trans hm4 (fun i hi => .inl hi))
      clear ht4 hm4 k2 k3 k4
      go_wp2_with fail
      go_meet
      exact ⟨_, putL ds f t bs, sd, rfl, rfl, HT4.out, putL_le ds f t bs, putL_len HDS.out f t (by omega), s0, s1, HM4.out⟩
    · subst hk
      go_wp2_with fail
      refine (call_a HT2.out (fun S h => put_any S _ a ds sd f t A1 c1 bs _ h HR2.out (fun i hi => by simp; omega) (by omega))).mono ?_
      rintro e w3 ⟨rfl, ht3, hm3⟩
      have hbd3 := (HBD2.out.kept hm3 (fun h => h.2 ⟨by omega, by omega⟩))
      have k2 := hbd3.cell 2
      have k3 := hbd3.cell 3
      have k4 := hbd3.cell 4
      simp only [List.getElem?_toArray, List.getElem?_cons_succ, List.getElem?_cons_zero] at k2 k3 k4
      have lbd3 := hbd3.lt
      have HX3 := Lib.hid ((HX.out.below (Ba HB1.out (.cells #[.int .i64 f, .int .i64 t, .slice A1 bs.length c1] 30)) (fun i hi => by have := HS.out i hi; omega)).kept hm3 (fun i hi h => by have := HS.out i hi; have := h.1; omega))
      have ls3 := hm3.size
      have HT3 := Lib.hid ht3
      have HM3 := Lib.hid hm3
      clear g0 g1 g2 g3 g4 ht3 hm3 hbd3
      go_wp2_with fail
      refine (call_b HT3.out (fun S' h => rlput_any S' S b ds sd f t xA xc bs _ h (by omega) HX3.out (fun i hi => by have := HS.out i hi; simp at ls3; omega) (by omega))).mono ?_
      rintro e w4 ⟨rfl, ht4, hm4⟩
      have HT4 := Lib.hid ht4
      have HM4 := Lib.hid (HM3.out.trans hm4 (fun i hi => .inl hi))
      clear ht4 hm4 k2 k3 k4
      go_wp2_with fail
      go_meet
      exact ⟨_, putL ds f t bs, sd, rfl, rfl, HT4.out, putL_le ds f t bs, putL_len HDS.out f t (by omega), s0, s1, HM4.out⟩
    · subst hk
      obtain ⟨d, hd⟩ : ∃ d, d = seeD ds n := ⟨_, rfl⟩
      obtain ⟨te, hte⟩ : ∃ te, te = seeE ds n := ⟨_, rfl⟩
      have HDD := Lib.hid (And.intro hd hte)
      go_wp2_with fail
      refine (take_a n HT2.out).mono ?_
      rintro e w3 ⟨A3, c3, rfl, ho3, ht3, hm3⟩
      rw [← hd, ← hte]
      rw [← hd] at ho3 ht3
      have HT3 := Lib.hid (ht3.keep (L := fun i => Plus (fun i => w.heap.size ≤ i ∧ i ≤ w1.heap.size) (.slice A3 d.bs.length c3) i ∨ i = w3.heap.size) (Ba (B0 w3) (.cells #[.int .i64 d.f, .int .i64 d.t, .slice A3 d.bs.length c3] 30)) (fun i hi => hi.elim .inr (fun e => .inl (by simp; omega))))
      have hbd3 := (HBD2.out.kept hm3 (fun h => h.2 ⟨by omega, by omega⟩))
      have k1 := hbd3.cell 1
      simp only [List.getElem?_toArray, List.getElem?_cons_succ, List.getElem?_cons_zero] at k1
      have lbd3 := hbd3.lt
      have HM3 := Lib.hid hm3
      have HO3 := Lib.hid ho3
      clear g0 g1 g2 g3 g4 ho3 ht3 hm3 hbd3 hd hte
      go_wp2_with fail
      refine (take_b n HT3.out (by omega)).mono ?_
      rintro e w4 ⟨A4, c4, rfl, ho4, ht4, hm4⟩
      rw [← HDD.out.1, ← HDD.out.2]
      rw [← HDD.out.1] at ho4
      have hx4 := (Blk.new w3 30 #[.int .i64 d.f, .int .i64 d.t, .slice A3 d.bs.length c3]).kept hm4 (fun h => h.2 (.inr rfl))
      obtain ⟨f0, f1, f2, _⟩ := blk3 hx4
      have lx4 := hx4.lt
      have HR3 := Lib.hid ((((Rd.of_own HO3.out).below (Ba (B0 w3) (.cells #[.int .i64 d.f, .int .i64 d.t, .slice A3 d.bs.length c3] 30)) (own_lt HO3.out)).kept hm4 (fun i hi h => h.2 (.inl (.inr hi)))).below (Ba (B0 w4) (.cells #[.int .i64 d.f, .int .i64 d.t, .slice A4 d.bs.length c4] 30)) (fun i hi => by have := own_lt HO3.out i hi; omega))
      have HR4 := Lib.hid ((Rd.of_own ho4).below (Ba (B0 w4) (.cells #[.int .i64 d.f, .int .i64 d.t, .slice A4 d.bs.length c4] 30)) (own_lt ho4))
      have HO4 := Lib.hid ho4
      have HT4 := Lib.hid (ht4.keep (L := fun i => w.heap.size ≤ i ∧ i ≤ w1.heap.size) (Ba (B0 w4) (.cells #[.int .i64 d.f, .int .i64 d.t, .slice A4 d.bs.length c4] 30)) (fun i hi => .inr (.inl (.inl hi))))
      have HM4 := Lib.hid hm4
      clear k1 ho4 ht4 hm4 hx4
      go_wp2_with fail
      refine (same_any _ _ d.f d.t d.f d.t A3 A4 c3 c4 d.bs d.bs _ HR3.out (fun i hi => by have := own_lt HO3.out i hi; simp; omega) HR4.out (fun i hi => by have := own_lt HO4.out i hi; simp; omega)).mono ?_
      rintro e w5 ⟨rfl, hb5⟩
      rw [sameD_refl]
      have HT5 := Lib.hid (HT4.out.below hb5)
      have HM5 := Lib.hid ((((HM3.out.alloc (.cells #[.int .i64 d.f, .int .i64 d.t, .slice A3 d.bs.length c3] 30)).trans HM4.out (fun i hi => .inl ⟨hi.1, fun hk => hi.2 (.inl (.inl hk))⟩)).alloc (.cells #[.int .i64 d.f, .int .i64 d.t, .slice A4 d.bs.length c4] 30)).trans (Mod.of_below (S := fun _ => False) hb5) (fun i hi => hi.elim))
      clear hb5 f0 f1 f2
      go_wp2_with fail
      go_meet
      exact ⟨te, takL ds n, sd, rfl, rfl, HT5.out, by have := takL_le ds n; omega, takL_all HDS.out n, s0, s1, HM5.out⟩
    · subst hk
      go_wp2_with fail
      refine (call_a HT2.out (fun S h => double_any S a ds sd n _ h (seeD_len HDS.out n))).mono ?_
      rintro e w3 ⟨rfl, ht3, hm3⟩
      have hbd3 := (HBD2.out.kept hm3 (fun h => h.2 ⟨by omega, by omega⟩))
      have k1 := hbd3.cell 1
      simp only [List.getElem?_toArray, List.getElem?_cons_succ, List.getElem?_cons_zero] at k1
      have lbd3 := hbd3.lt
      have HT3 := Lib.hid ht3
      have HM3 := Lib.hid hm3
      clear g0 g1 g2 g3 g4 ht3 hm3 hbd3
      go_wp2_with fail
      refine (call_b HT3.out (fun S h => rldouble_any S b ds sd n _ h (by omega) (seeD_len HDS.out n))).mono ?_
      rintro e w4 ⟨rfl, ht4, hm4⟩
      have HT4 := Lib.hid ht4
      have HM4 := Lib.hid (HM3.out.trans hm4 (fun i hi => .inl hi))
      clear ht4 hm4 k1
      go_wp2_with fail
      go_meet
      exact ⟨_, dblL ds n, sd, rfl, rfl, HT4.out, dblL_le ds n, dblL_len HDS.out n, s0, s1, HM4.out⟩
    · subst hk
      go_wp2_with fail
      refine (call_a HT2.out (fun S h => cut_any S a ds sd n _ h)).mono ?_
      rintro e w3 ⟨rfl, ht3, hm3⟩
      have hbd3 := (HBD2.out.kept hm3 (fun h => h.2 ⟨by omega, by omega⟩))
      have k1 := hbd3.cell 1
      simp only [List.getElem?_toArray, List.getElem?_cons_succ, List.getElem?_cons_zero] at k1
      have lbd3 := hbd3.lt
      have HT3 := Lib.hid ht3
      have HM3 := Lib.hid hm3
      clear g0 g1 g2 g3 g4 ht3 hm3 hbd3
      go_wp2_with fail
      refine (call_b HT3.out (fun S h => rlcut_any S b ds sd n _ h hn)).mono ?_
      rintro e w4 ⟨rfl, ht4, hm4⟩
      have HT4 := Lib.hid ht4
      have HM4 := Lib.hid (HM3.out.trans hm4 (fun i hi => .inl hi))
      clear ht4 hm4 k1
      go_wp2_with fail
      go_meet
      exact ⟨_, ds, cutS sd n, rfl, rfl, HT4.out, by omega, HDS.out, by unfold cutS; split <;> omega, by unfold cutS; split <;> omega, HM4.out⟩
  case rest =>
  obtain ⟨ee, ds', sd', rfl, rfl, ht2, hl2, hd2, s2, s3, hm2⟩ := hcut
  obtain ⟨w2, rfl⟩ : ∃ w2, w2 = wc := ⟨_, rfl⟩
  have lw1 : w1.heap.size < w2.heap.size := Nat.lt_of_lt_of_le (by simp) hm2.size
  have hbd := HBD2.out.kept hm2 (fun h => h.2 ⟨by omega, by omega⟩)
  have hb7 := (Blk.new w1 30 #[.int .i64 f, .int .i64 t, .slice A1 bs.length c1]).kept hm2 (fun h => h.2 ⟨by omega, by omega⟩)
  have HBD := Lib.hid hbd
  have HB7 := Lib.hid hb7
  have lbd2 := hbd.lt
  have g1 := hbd.cell 1
  have g2 := hbd.cell 2
  have g3 := hbd.cell 3
  have g4 := hbd.cell 4
  simp only [List.getElem?_toArray, List.getElem?_cons_succ, List.getElem?_cons_zero] at g1 g2 g3 g4
  obtain ⟨i0, i1, i2, _⟩ := blk3 hb7
  have HRI := Lib.hid ((((Rd.of_own HFF.out.own).mono (T := fun k => w.heap.size ≤ k ∧ k < w1.heap.size) (fun i hi => ⟨by have := own_ge HFF.out.own i hi; simp at this; omega, own_lt HFF.out.own i hi⟩)).below (Ba (B0 w1) (.cells #[.int .i64 f, .int .i64 t, .slice A1 bs.length c1] 30)) (fun i hi => hi.2)).kept hm2 (fun i hi h => h.2 ⟨hi.1, by omega⟩))
  have HSO := Lib.hid ((((SoftAt.of_own HFF.out.own).mono (U := fun k => w.heap.size ≤ k ∧ k < w1.heap.size) (fun i hi => ⟨by have := own_ge HFF.out.own i hi; simp at this; omega, own_lt HFF.out.own i hi⟩)).kept ((Mod.refl (fun _ => False) w1).alloc (.cells #[.int .i64 f, .int .i64 t, .slice A1 bs.length c1] 30)) (fun i hi h => h)).kept hm2 (fun i hi h => h.2 ⟨hi.1, by omega⟩))
  have HXX := Lib.hid ((HX.out.below (Ba HB1.out (.cells #[.int .i64 f, .int .i64 t, .slice A1 bs.length c1] 30)) (fun i hi => by have := HS.out i hi; omega)).kept hm2 (fun i hi h => by have := HS.out i hi; have := h.1; omega))
  have HT3 := Lib.hid ht2
  have HD3 := Lib.hid hd2
  have HMW2 := Lib.hid (((Mod.of_below (S := fun i => B ≤ i) (Ba HB1.out (.cells #[.int .i64 f, .int .i64 t, .slice A1 bs.length c1] 30))).trans hm2 (fun i hi => .inl hi.1)))
  clear ht2 hd2 hm2 hbd hb7 HT2 HBD2 HR2 HT
  go_wp2_with fail
  refine (same_any _ S f t f t A1 xA c1 xc bs bs _ HRI.out (fun i hi => by omega) HXX.out (fun i hi => by have := HS.out i hi; have := HT3.out.1; omega)).mono ?_
  rintro e w3 ⟨rfl, hb3⟩
  rw [show sameF f t f t bs bs = true from sameD_refl ⟨f, t, bs⟩]
  have HT4 := Lib.hid (HT3.out.below hb3)
  have HBD3 := Lib.hid (HBD.out.later hb3)
  have HB73 := Lib.hid (HB7.out.later hb3)
  have HSO3 := Lib.hid (HSO.out.kept (Mod.of_below (S := fun _ => False) hb3) (fun i hi h => h))
  have HMW3 := Lib.hid (HMW2.out.trans (Mod.of_below (S := fun _ => False) hb3) (fun i hi => hi.elim))
  have lb3 := hb3.size
  clear hb3 i0 i1 i2 g1 g2 g3 g4
  go_wp2_with fail
  go_loopw [14] (fun k wr => ∃ m : Nat, m ≤ bs.length ∧ k = .int .i64 m ∧ SoftAt wr (fun k => w.heap.size ≤ k ∧ k < w1.heap.size) (.slice A1 bs.length c1) bs.length ∧ Mod (fun k => w.heap.size < k ∧ k < w1.heap.size) w3 wr) (fun k _ => bs.length - (intOf k).toNat)
  case atStart => exact ⟨0, Nat.zero_le _, rfl, HSO3.out, Mod.refl _ _⟩
  case round =>
    obtain ⟨m, hm, rfl, hso, hmw⟩ := hrel
    obtain ⟨wv, rfl⟩ : ∃ wv, wv = wr := ⟨_, rfl⟩
    have hbx := HB73.out.kept hmw (fun h => by omega)
    have hby := HBD3.out.kept hmw (fun h => by omega)
    obtain ⟨f0, f1, f2, _⟩ := blk3 hbx
    have HMW := Lib.hid hmw
    have lbx := hbx.lt
    have lby := hby.lt
    have HBY := Lib.hid hby
    have hbl9 : (bs.length : Int) ≤ 140737488351232 := by omega
    by_cases hlt : m < bs.length
    · have hlt' : (m : Int) < (bs.length : Int) := by omega
      have hm0 : (0 : Int) ≤ (m : Int) := by omega
      obtain ⟨g, x, hA, hg, hcap, q0, z0, lgg, hset⟩ := hso.set hlt
      have hgne : g ≠ w.heap.size := fun e => by
        subst e
        have hbl2 := hby
        rcases hso with h | ⟨g', cap', cs', he, _, _, hk', _, _⟩
        · omega
        · rw [hA] at he
          injection he with e1 _ _
          injection e1 with e1
          injection e1 with e1 _
          subst e1
          exact Blk.ne_ hby hk' (show (32 : TypeId) ≠ 5 by decide) rfl
      subst hA
      obtain ⟨y, hy⟩ : ∃ y, IntKind.u8.wrap (x + 1) = y := ⟨_, rfl⟩
      have HS2 := Lib.hid (hset y)
      have HM2 : Hid (Mod (fun k => w.heap.size < k ∧ k < w1.heap.size) w3 (wv.drew.setCell ⟨g, m, none⟩ (.int .u8 y))) := Lib.hid (HMW.out.drew.setCell (.inl ⟨Nat.lt_of_le_of_ne hg.1 (Ne.symm hgne), hg.2⟩) _)
      clear hmw hbx hset hso hby
      go_wp2_with fail
      go_region_law (fail)
      all_goals
        go_wp2_with fail
        go_roundw
        case rel => exact ⟨m + 1, by omega, by go_num, HS2.out, HM2.out⟩
        case measure => simp [intOf]; omega
    · obtain rfl : m = bs.length := by omega
      have HT5 := Lib.hid (HT4.out.other hmw (fun i hi => ⟨by omega, by omega⟩))
      have HMW5 := Lib.hid (HMW3.out.trans hmw (fun i hi => .inl (Nat.le_trans hBw (Nat.le_of_lt hi.1))))
      have k1 := hby.cell 1
      simp only [List.getElem?_toArray, List.getElem?_cons_succ, List.getElem?_cons_zero] at k1
      clear hmw hbx hso hby
      obtain ⟨d, hd⟩ : ∃ d, d = seeD ds' n := ⟨_, rfl⟩
      obtain ⟨te, hte⟩ : ∃ te, te = seeE ds' n := ⟨_, rfl⟩
      have hdl : d.bs.length ≤ 140737488355328 := hd ▸ seeD_len HD3.out n
      have hne : (te != te) = false := by simp
      have HDD := Lib.hid (And.intro hd hte)
      go_wp2_with fail
      refine (see_a n HT5.out).mono ?_
      rintro e w5 ⟨A5, c5, rfl, HF5⟩
      rw [← hd, ← hte]
      rw [← hd] at HF5
      have HFF5 := Lib.hid HF5
      have HT6 := Lib.hid (HT5.out.below HF5.kept)
      have k5 := (HBY.out.later HF5.kept).cell 1
      simp only [List.getElem?_toArray, List.getElem?_cons_succ, List.getElem?_cons_zero] at k5
      have lb5 := HF5.kept.size
      have lby5 : w.heap.size < w5.heap.size := by omega
      clear HF5 hd hte k1 f0 f1 f2
      go_wp2_with fail
      refine (see_b n (HT6.out.below (Ba (B0 w5) (.cells #[.int .i64 d.f, .int .i64 d.t, .slice A5 d.bs.length c5] 30))) (by omega)).mono ?_
      rintro e w6 ⟨A6, c6, rfl, HF6⟩
      rw [← HDD.out.1, ← HDD.out.2]
      rw [← HDD.out.1] at HF6
      have hx6 := (Blk.new w5 30 #[.int .i64 d.f, .int .i64 d.t, .slice A5 d.bs.length c5]).later HF6.kept
      obtain ⟨f0, f1, f2, _⟩ := blk3 hx6
      have lx6 := hx6.lt
      have HX6 := Lib.hid hx6
      have HFF6 := Lib.hid HF6
      have lb6 := HF6.kept.size
      have HK56 := Lib.hid (Bt (Ba (B0 w5) (.cells #[.int .i64 d.f, .int .i64 d.t, .slice A5 d.bs.length c5] 30)) HF6.kept)
      clear HF6 hx6 k5
      go_wp2_with fail
      refine (same_any (fun i => i < w5.heap.size) (fun i => i < w6.heap.size) d.f d.t d.f d.t A5 A6 c5 c6 d.bs d.bs _ (HFF5.out.rd.below (Ba HK56.out _) (fun i hi => hi)) (fun i hi => by have := HK56.out.size; simp; omega) (HFF6.out.rd1 _) (fun i hi => by simp; omega)).mono ?_
      rintro e w7 ⟨rfl, hb7⟩
      rw [sameD_refl]
      have HK57 := Lib.hid (Bt (Ba HK56.out (.cells #[.int .i64 d.f, .int .i64 d.t, .slice A6 d.bs.length c6] 30)) hb7)
      have HX7 := Lib.hid ((HX6.out.alloc (.cells #[.int .i64 d.f, .int .i64 d.t, .slice A6 d.bs.length c6] 30)).later hb7)
      have HSX := Lib.hid ((SoftAt.of_own HFF5.out.own).mono (U := fun k => wv.heap.size ≤ k ∧ k < w5.heap.size) (fun i hi => ⟨own_ge HFF5.out.own i hi, own_lt HFF5.out.own i hi⟩))
      have HSX7 := Lib.hid (HSX.out.kept (Mod.of_below (S := fun _ => False) HK57.out) (fun i hi h => h))
      have HT7 := Lib.hid ((HT5.out.keep (L := fun k => wv.heap.size ≤ k ∧ k < w5.heap.size) (Bt HFF5.out.kept HK57.out) (fun i hi => .inl ⟨hi.1, by have := HK57.out.size; omega⟩)))
      have HMW7 := Lib.hid (HMW5.out.trans (Mod.of_below (S := fun _ => False) (Bt HFF5.out.kept HK57.out)) (fun i hi => hi.elim))
      have lb7 := HK57.out.size
      have lmw := HMW5.out.size
      clear hb7 f0 f1 f2
      go_wp2_with fail
      go_loopw [19] (fun k wr => ∃ m : Nat, m ≤ d.bs.length ∧ k = .int .i64 m ∧ SoftAt wr (fun k => wv.heap.size ≤ k ∧ k < w5.heap.size) (.slice A5 d.bs.length c5) d.bs.length ∧ Mod (fun k => wv.heap.size ≤ k ∧ k < w5.heap.size) w7 wr) (fun k _ => d.bs.length - (intOf k).toNat)
      case atStart => exact ⟨0, Nat.zero_le _, rfl, HSX7.out, Mod.refl _ _⟩
      case round =>
        obtain ⟨m, hm, rfl, hso, hmw⟩ := hrel
        obtain ⟨wz, rfl⟩ : ∃ wz, wz = wr := ⟨_, rfl⟩
        have hbx := HX7.out.kept hmw (fun h => by omega)
        obtain ⟨f0, f1, f2, _⟩ := blk3 hbx
        have HMZ := Lib.hid hmw
        have lbz := hbx.lt
        have hdl9 : (d.bs.length : Int) ≤ 140737488355328 := by omega
        by_cases hlt : m < d.bs.length
        · have hlt' : (m : Int) < (d.bs.length : Int) := by omega
          have hm0 : (0 : Int) ≤ (m : Int) := by omega
          obtain ⟨g, x, hA, hg, hcap, q0, z0, lgg, hset⟩ := hso.set hlt
          subst hA
          have HS2 := Lib.hid (hset 9)
          have HM2 : Hid (Mod (fun k => wv.heap.size ≤ k ∧ k < w5.heap.size) w7 (wz.setCell ⟨g, m, none⟩ (.int .u8 9))) := Lib.hid (HMZ.out.setCell (.inl hg) _)
          clear hmw hbx hset hso
          go_wp2_with fail
          go_roundw
          case rel => exact ⟨m + 1, by omega, by go_num, HS2.out, HM2.out⟩
          case measure => simp [intOf]; omega
        · obtain rfl : m = d.bs.length := by omega
          have HT8 := Lib.hid ((HT7.out.other hmw (fun i hi => hi)).keep (L := No) (B0 _) (fun i h => h.elim))
          have HMW8 := Lib.hid (HMW7.out.trans hmw (fun i hi => .inr (by omega)))
          have hee : (ee == ee) = true := by simp
          have hll : ((ds'.length : Int) == (ds'.length : Int)) = true := by simp
          clear hmw hbx hso
          go_wp2_with fail
          refine (tlen_a HT8.out).mono ?_
          rintro e w' ⟨rfl, rfl⟩
          go_wp2_with fail
          refine (tlen_b HT8.out).mono ?_
          rintro e w' ⟨rfl, rfl⟩
          go_wp2_with fail
          go_ret
          exact ⟨rfl, ds', sd', HT8.out, hl2, HD3.out, s2, s3, HMW8.out⟩
end Go.Proofs.Ytekedgokmmkplaa
