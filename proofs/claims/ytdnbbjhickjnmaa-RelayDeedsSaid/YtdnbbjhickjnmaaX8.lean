/- The statement RelayDeeds: its walk. -/
import Derived.Test.YtdnbbjhickjnmaaR25
namespace Go.Proofs.Ytdnbbjhickjnmaa
open Go.RowKit Go.WideShapes Go.ChangeShapes
set_option maxRecDepth 20000
set_option linter.unusedVariables false
set_option linter.unusedSimpArgs false

/-- A slice that may be written to, its block in T. -/
def SoftAt (w : World) (T : Nat → Prop) (v : Value) (n : Nat) : Prop :=
  n = 0 ∨ ∃ g cap cs, v = .slice (some ⟨g, 0, none⟩) n cap ∧ T g ∧ n ≤ cap ∧ Blk w g 5 cs ∧ n ≤ cs.size ∧ ∀ i, i < n → ∃ x, cs[i]? = some (.int .u8 x)
theorem SoftAt.of_own {w : World} {base : Nat} {v : Value} {bs : List Int} (h : w.ownsRow base 5 1 v bs.length (bts bs)) : SoftAt w (fun k => v.ownBlock = some k) v bs.length := by
  rcases h.2 with ⟨rfl, h0⟩ | ⟨g, cap, cur, rfl, hb, hh, hnc, hcm, hcs, ht⟩
  · exact .inl h0
  · refine .inr ⟨g, cap, cur, rfl, rfl, hnc, hh, by omega, fun i hi => ?_⟩
    have e : (cur.toList.take (bs.length * 1))[i]? = (bts bs)[i]? := by rw [ht]
    rw [List.getElem?_take, if_pos (by omega), bts_getElem? bs i hi] at e
    exact ⟨_, by simpa using e⟩
theorem SoftAt.mono {w : World} {T U : Nat → Prop} {v : Value} {n : Nat} (h : SoftAt w T v n) (hd : ∀ i, T i → U i) : SoftAt w U v n := by
  rcases h with h | ⟨g, cap, cs, h1, h2, h3⟩
  · exact .inl h
  · exact .inr ⟨g, cap, cs, h1, hd _ h2, h3⟩
theorem SoftAt.kept {w w' : World} {T U : Nat → Prop} {v : Value} {n : Nat} (h : SoftAt w T v n) (hm : Mod U w w') (hd : ∀ i, T i → ¬ U i) : SoftAt w' T v n := by
  rcases h with h | ⟨g, cap, cs, h1, h2, h3, h4, h5⟩
  · exact .inl h
  · exact .inr ⟨g, cap, cs, h1, h2, h3, h4.kept hm (hd _ h2), h5⟩

set_option maxHeartbeats 8000000 in
theorem relayDeeds_list (W : World) (A : Option Addr) (c : Nat) (ls : List De) (hls : DesRd W A c ls) :
    Calls Try.prog 3 #[.slice A ls.length c] W fun e w' => e = .returned (.bool true) ∧ Below W.heap.size W w' := by
  have hcap := hls.cap
  have hmost := hls.most
  have HR := Lib.hid hls
  clear hls
  go_enter Try.func3, Try.ntmps3
  go_wp2_with fail
  refine (rnew_any W).mono ?_
  rintro e w1 ⟨rfl, hb1, hr1⟩
  go_wp2_with fail
  refine (refnew_any _).mono ?_
  rintro e w2 ⟨rfl, hb2, hr2⟩
  go_wp2_with fail
  refine (rnew_any _).mono ?_
  rintro e w3 ⟨rfl, hb3, hr3⟩
  have l1 := hr1.lt _ rfl
  have l2 := hr2.2.1 _ rfl
  have l3 := hr3.lt _ rfl
  have lb1 := hb1.size
  have lb2 := hb2.size
  have lb3 := hb3.size
  have HT0 : Hid (Tri W.heap.size No No w3 W.heap.size (fun _ => []) w1.heap.size [] w2.heap.size) := Lib.hid ⟨by omega, fun i h => h.elim, _, _, _, _, fun i hi => ⟨by omega, id⟩, fun i hi => ⟨by omega, id⟩, fun i hi => ⟨by omega, id⟩, fun i hi hj => by omega, fun i hi hj => by omega, fun i hi hj => by omega, fun i h => h.elim, (hr1.below hb2).below hb3, hr2.below hb3, hr3⟩
  have HTD0 : Hid (Tied (fun _ => []) []) := Lib.hid ⟨fun n hn => rfl, fun d hd => by simp at hd⟩
  have HW0 := Lib.hid (Bt (Bt hb1 hb2) hb3)
  clear hb1 hb2 hb3 hr1 hr2 hr3
  obtain ⟨a, ha⟩ : ∃ a, a = W.heap.size := ⟨_, rfl⟩
  obtain ⟨b, hb⟩ : ∃ b, b = w1.heap.size := ⟨_, rfl⟩
  obtain ⟨o, ho⟩ : ∃ o, o = w2.heap.size := ⟨_, rfl⟩
  have HT1 : Hid (Tri W.heap.size No No w3 a (fun _ => []) b [] o) := Lib.hid (by rw [ha, hb, ho]; exact HT0.out)
  rw [← ha, ← hb, ← ho]
  clear HT0 ha hb ho l1 l2 l3 lb1 lb2 lb3
  go_wp2_with fail
  go_loopw [6] (fun i wr => ∃ (j : Nat) (q : Nat → List Dg) (ds : List Dg), j ≤ ls.length ∧ j ≤ 100 ∧ i = .int .i64 j ∧ Tied q ds ∧ ds.length ≤ j ∧ Tri W.heap.size No No wr a q b ds o ∧ Below W.heap.size W wr) (fun i _ => ls.length - (intOf i).toNat)
  case atStart => exact ⟨0, _, _, Nat.zero_le _, by omega, rfl, HTD0.out, Nat.le_refl _, HT1.out, HW0.out⟩
  case round =>
    obtain ⟨j, q, ds, hj, hj1, rfl, htd, hdl, ht, hbw⟩ := hrel
    obtain ⟨wo, rfl⟩ : ∃ wo, wo = wr := ⟨_, rfl⟩
    have HTD := Lib.hid htd
    have HT := Lib.hid ht
    have HWO := Lib.hid hbw
    clear htd ht hbw HT1 HTD0 HW0
    by_cases hlt : j < ls.length ∧ j < 100
    · obtain ⟨hlt, h100⟩ := hlt
      have hlt' : (j : Int) < (ls.length : Int) := by omega
      have h100' : (j : Int) < 100 := by omega
      have hj0 : (0 : Int) ≤ (j : Int) := by omega
      obtain ⟨ga, oa, hA, hga, hx⟩ := HR.out.at_ j hlt
      subst hA
      generalize ls[j] = x at hx
      obtain ⟨⟨hx1, hx2⟩, d0, d1, d2, d3, d4⟩ := hx
      obtain ⟨tk, node, f, t, xA, xc, bs⟩ := x
      have HX := Lib.hid hx2
      have HD := Lib.hid (And.intro d0 (And.intro d1 (And.intro d2 (And.intro d3 d4))))
      simp only at hx1 HX HD
      clear hx2 d0 d1 d2 d3 d4
      go_wp2_with fail
      refine (put_o 1 2 none 0 [] HT.out (Rd.nil _ No _) (fun i h => h.elim)).mono ?_
      rintro e w1' ⟨⟨n1, rfl⟩, ht1, hm1⟩
      have HT1 := Lib.hid ht1
      have hbw1 := Bm HWO.out hm1 (fun i h => h.1)
      have HW1 := Lib.hid hbw1
      have d0 := (hbw1.cell (p := ⟨ga, oa + j * 5, none⟩) hga).trans HD.out.1
      have d1 := (hbw1.cell (p := ⟨ga, oa + j * 5 + 1, none⟩) hga).trans HD.out.2.1
      have d2 := (hbw1.cell (p := ⟨ga, oa + j * 5 + 2, none⟩) hga).trans HD.out.2.2.1
      have d3 := (hbw1.cell (p := ⟨ga, oa + j * 5 + 3, none⟩) hga).trans HD.out.2.2.2.1
      have d4 := (hbw1.cell (p := ⟨ga, oa + j * 5 + 4, none⟩) hga).trans HD.out.2.2.2.2
      have lg1 : ga < w1'.heap.size := Nat.lt_of_lt_of_le hga hbw1.size
      clear ht1 hm1 hbw1 HT HWO
      cases tk
      · have hnp : (refputE ds f t bs.length != refputE ds f t bs.length) = false := by simp
        obtain ⟨pe, hpe⟩ : ∃ pe, pe = refputE ds f t bs.length := ⟨_, rfl⟩
        rw [← hpe] at hnp
        have HPE := Lib.hid (And.intro ((tied_putE HTD.out f t bs.length).trans hpe.symm) hpe.symm)
        clear hpe
        go_wp2_with fail
        refine (refcopy_any _ xA xc f t bs _ (HX.out.below HW1.out (fun i hi => hi)) (fun i hi => by have := HW1.out.size; omega) (by omega)).mono ?_
        rintro e w2 ⟨A2, c2, rfl, HF⟩
        have lw2 := HF.kept.size
        have lg2 : ga < w2.heap.size := by omega
        have HW2 := Lib.hid (Bt HW1.out HF.kept)
        have HSO : Hid (SoftAt w2 (fun k => w1'.heap.size ≤ k ∧ k < w2.heap.size) (.slice A2 bs.length c2) bs.length) := Lib.hid ((SoftAt.of_own HF.own).mono (fun i hi => ⟨own_ge HF.own i hi, own_lt HF.own i hi⟩))
        have HRI := Lib.hid ((Rd.of_own HF.own).mono (T := fun k => w1'.heap.size ≤ k ∧ k < w2.heap.size) (fun i hi => ⟨own_ge HF.own i hi, own_lt HF.own i hi⟩))
        have HT2 := Lib.hid (HT1.out.keep (L := fun k => w1'.heap.size ≤ k ∧ k ≤ w2.heap.size) (Ba HF.kept (.cells #[.int .i64 f, .int .i64 t, .slice A2 bs.length c2] 31)) (fun i hi => .inl (by simp; omega)))
        replace d2 := (HF.kept.cell (p := ⟨ga, oa + j * 5 + 2, none⟩) lg1).trans d2
        replace d3 := (HF.kept.cell (p := ⟨ga, oa + j * 5 + 3, none⟩) lg1).trans d3
        replace d4 := (HF.kept.cell (p := ⟨ga, oa + j * 5 + 4, none⟩) lg1).trans d4
        clear HF d0 d1
        have HBX := Lib.hid (Blk.new w2 31 #[.int .i64 f, .int .i64 t, .slice A2 bs.length c2])
        go_wp2_with fail
        go_region_held3 (fun w' => w'.cell? ⟨w2.heap.size, 0, none⟩ = some (.int .i64 f) ∧ w'.cell? ⟨w2.heap.size, 1, none⟩ = some (.int .i64 t) ∧ w'.cell? ⟨w2.heap.size, 2, none⟩ = some (.slice A2 bs.length c2) ∧
            w'.cell? ⟨ga, oa + j * 5 + 2, none⟩ = some (.int .i64 f) ∧ w'.cell? ⟨ga, oa + j * 5 + 3, none⟩ = some (.int .i64 t) ∧ w'.cell? ⟨ga, oa + j * 5 + 4, none⟩ = some (.slice xA bs.length xc))
          (first | (exact ⟨hbx5.cell 0, hbx5.cell 1, hbx5.cell 2, k2, k3, k4⟩) | (exact ⟨hbx4.cell 0, hbx4.cell 1, hbx4.cell 2, h2, h3, h4⟩) | (exact ⟨hbx3.cell 0, hbx3.cell 1, hbx3.cell 2, g2, g3, g4⟩) | go_keep) (first
          | (go_at_call 16; refine (put_a f t A2 c2 bs (HT2.out.below (Bd (B0 _))) (HRI.out.below (Bd (Ba (B0 w2) _)) (fun i hi => hi.2)) (fun i hi => by simp; omega)).mono ?_; rintro e w3 ⟨rfl, ht3, hm3⟩; rw [HPE.out.1]; have hbx3 := HBX.out.drew.kept hm3 (fun h => h.2 ⟨by omega, by omega⟩); have g2 := hm3.cell (p := ⟨ga, oa + j * 5 + 2, none⟩) (u := .int .i64 f) (((Bd (Ba (B0 w2) _)).cell lg2).trans d2) (fun h => by have := h.1; simp only at this; omega); have g3 := hm3.cell (p := ⟨ga, oa + j * 5 + 3, none⟩) (u := .int .i64 t) (((Bd (Ba (B0 w2) _)).cell lg2).trans d3) (fun h => by have := h.1; simp only at this; omega); have g4 := hm3.cell (p := ⟨ga, oa + j * 5 + 4, none⟩) (u := .slice xA bs.length xc) (((Bd (Ba (B0 w2) _)).cell lg2).trans d4) (fun h => by have := h.1; simp only at this; omega); have HW3 := Lib.hid (Bm (Bd (Ba HW2.out (.cells #[.int .i64 f, .int .i64 t, .slice A2 bs.length c2] 31))) hm3 (fun i h => h.1)); have lg3 := hm3.size)
          | (go_at_call 21; refine (put_b f t xA xc bs ht3 (by omega) (HX.out.below HW3.out (fun i hi => hi)) (fun i hi => by have := HW3.out.size; omega)).mono ?_; rintro e w4 ⟨rfl, ht4, hm4⟩; rw [HPE.out.2]; have hbx4 := hbx3.kept hm4 (fun h => h.2 ⟨by omega, by omega⟩); have h2 := hm4.cell g2 (fun h => by have := h.1; simp only at this; omega); have h3 := hm4.cell g3 (fun h => by have := h.1; simp only at this; omega); have h4 := hm4.cell g4 (fun h => by have := h.1; simp only at this; omega); have HW4 := Lib.hid (Bm HW3.out hm4 (fun i h => h.1)); have lg4 := hm4.size)
          | (go_at_call 19; refine (same_any _ _ f t f t A2 xA c2 xc bs bs _ (((HRI.out.below (Bd (Ba (B0 w2) _)) (fun i hi => hi.2)).kept hm3 (fun i hi h => h.2 ⟨hi.1, by omega⟩)).kept hm4 (fun i hi h => h.2 ⟨hi.1, by omega⟩)) (fun i hi => by simp at lg3; omega) (HX.out.below HW4.out (fun i hi => hi)) (fun i hi => by have := HW4.out.size; omega)).mono ?_; rintro e w5 ⟨rfl, hb5⟩; rw [show sameF f t f t bs bs = true from same_refl ⟨f, t, bs⟩]; have hbx5 := hbx4.later hb5; have k2 := (hb5.cell (p := ⟨ga, oa + j * 5 + 2, none⟩) (by simp at lg3; simp; omega)).trans h2; have k3 := (hb5.cell (p := ⟨ga, oa + j * 5 + 3, none⟩) (by simp at lg3; simp; omega)).trans h3; have k4 := (hb5.cell (p := ⟨ga, oa + j * 5 + 4, none⟩) (by simp at lg3; simp; omega)).trans h4))
        all_goals
          have HT5 := Lib.hid (ht4.below hb5)
          have HBX5 := Lib.hid hbx5
          have HW5 := Lib.hid (Bt HW4.out hb5)
          have HSO5 := Lib.hid ((((HSO.out.kept ((Mod.refl (fun _ => False) w2).alloc (.cells #[.int .i64 f, .int .i64 t, .slice A2 bs.length c2] 31)).drew (fun i hi h => h)).kept hm3 (fun i hi h => h.2 ⟨hi.1, by omega⟩)).kept hm4 (fun i hi h => h.2 ⟨hi.1, by omega⟩)).kept (Mod.of_below (S := fun _ => False) hb5) (fun i hi h => h))
          have hle9 := refputL_le ds f t bs
          have HTD9 := Lib.hid (tied_put HTD.out f t bs)
          have lx5 := hbx5.lt
          clear hbx3 hbx4 hbx5 g2 g3 g4 h2 h3 h4 k2 k3 k4 ht3 ht4 hm3 hm4 hb5 d2 d3 d4
          go_wp2_with fail
          go_loopw [12] (fun k wr => ∃ n : Nat, n ≤ bs.length ∧ k = .int .i64 n ∧ SoftAt wr (fun k => w1'.heap.size ≤ k ∧ k < w2.heap.size) (.slice A2 bs.length c2) bs.length ∧ Mod (fun k => w1'.heap.size ≤ k ∧ k < w2.heap.size) w5 wr) (fun k _ => bs.length - (intOf k).toNat)
          case atStart => exact ⟨0, Nat.zero_le _, rfl, HSO5.out, Mod.refl _ _⟩
          case round =>
            obtain ⟨n, hn, rfl, hso, hmw⟩ := hrel
            obtain ⟨wv, rfl⟩ : ∃ wv, wv = wr := ⟨_, rfl⟩
            have hbx := HBX5.out.kept hmw (fun h => by omega)
            obtain ⟨f0, f1, f2, _⟩ := blk3 hbx
            have HMW := Lib.hid hmw
            have hbl : (bs.length : Int) ≤ 140737488351232 := by omega
            by_cases hlt : n < bs.length
            · have hlt' : (n : Int) < (bs.length : Int) := by omega
              have hn0 : (0 : Int) ≤ (n : Int) := by omega
              rcases hso with h0 | ⟨g, cap, cs, he, hg, hcap2, hblk, hsz, hcs⟩
              · omega
              injection he with e1 e2 e3
              subst e1 e3
              obtain ⟨x, hx⟩ := hcs n hlt
              have q0 := (hblk.cell n).trans hx
              have z0 := hblk.frozen n
              have lgg := hblk.lt
              obtain ⟨y, hy⟩ : ∃ y, IntKind.u8.wrap (x + 1) = y := ⟨_, rfl⟩
              have HS2 : Hid (SoftAt (wv.drew.setCell ⟨g, n, none⟩ (.int .u8 y)) (fun k => w1'.heap.size ≤ k ∧ k < w2.heap.size) (.slice (some ⟨g, 0, none⟩) bs.length c2) bs.length) := Lib.hid (.inr ⟨g, c2, cs.setIfInBounds n (.int .u8 y), rfl, hg, hcap2, hblk.drew.set_ n _, by simpa using hsz, fun i hi => by
                by_cases e : i = n
                · subst e; exact ⟨y, by rw [Array.getElem?_setIfInBounds_self_of_lt (by omega)]⟩
                · rw [Array.getElem?_setIfInBounds_ne (by omega)]; exact hcs i hi⟩)
              have HM2 : Hid (Mod (fun k => w1'.heap.size ≤ k ∧ k < w2.heap.size) w5 (wv.drew.setCell ⟨g, n, none⟩ (.int .u8 y))) := Lib.hid (HMW.out.drew.setCell (.inl hg) _)
              clear hmw hbx hblk hcs hx e2
              go_wp2_with fail
              go_region_law (fail)
              all_goals
                go_wp2_with fail
                go_roundw
                case rel => exact ⟨n + 1, by omega, by go_num, HS2.out, HM2.out⟩
                case measure => simp [intOf]; omega
            · obtain rfl : n = bs.length := by omega
              have HTZ := (((HT5.out.other hmw (fun i hi => ⟨hi.1, by omega⟩)).keep (L := No) (B0 _) (fun i h => h.elim)))
              have HW9 := Lib.hid (Bm HW5.out hmw (fun i hi => by have := HW1.out.size; omega))
              clear hmw hbx hso
              have HT9 := Lib.hid (HTZ : Tri W.heap.size No No wv a (rputQ q f t bs) b (refputL ds f t bs) o)
              clear HTZ
              go_wp2_with fail
              go_loopw [13] (fun n wr => ∃ m : Int, -1 ≤ m ∧ m ≤ 10 ∧ n = .int .i64 m ∧ wv = wr) (fun n _ => (10 - intOf n).toNat)
              case atStart => exact ⟨-1, by omega, by omega, rfl, rfl⟩
              case round =>
                obtain ⟨m, hm1, hm2, rfl, rfl⟩ := hrel
                by_cases hm : m ≤ 9
                · obtain ⟨cn, hcn⟩ : ∃ cn : Int, cn = (cntF (refputL ds f t bs) m : Int) := ⟨_, rfl⟩
                  have hne : (cn != cn) = false := by simp
                  have HC := Lib.hid (And.intro (tied_len HTD9.out m) hcn.symm)
                  clear hcn
                  go_wp2_with fail
                  refine (len_a m HT9.out).mono ?_
                  rintro e w' ⟨rfl, rfl⟩
                  rw [HC.out.1, HC.out.2]
                  go_wp2_with fail
                  refine (len_b m HT9.out (by omega)).mono ?_
                  rintro e w' ⟨rfl, rfl⟩
                  rw [HC.out.2]
                  go_wp2_with fail
                  go_roundw
                  case rel => exact ⟨m + 1, by omega, by omega, by first | rfl | trivial, by first | rfl | trivial⟩
                  case measure => simp [intOf]; omega
                · obtain rfl : m = 10 := by omega
                  go_wp2_with fail
                  go_roundw
                  case rel => exact ⟨j + 1, (rputQ q f t bs), (refputL ds f t bs), by omega, by omega, by go_num, HTD9.out, by omega, HT9.out, HW9.out⟩
                  case measure => simp [intOf]; omega
      · obtain ⟨d, hd⟩ : ∃ d, d = reftakD ds node := ⟨_, rfl⟩
        obtain ⟨te, hte⟩ : ∃ te, te = reftakE ds node := ⟨_, rfl⟩
        have HDD := Lib.hid (And.intro ((tied_takD HTD.out node).trans hd.symm) (And.intro hd.symm (And.intro ((tied_takE HTD.out node).trans hte.symm) hte.symm)))
        have hne : (te != te) = false := by simp
        clear hd hte
        go_wp2_with fail
        refine (take_a node HT1.out).mono ?_
        rintro e w2 ⟨A2, c2, Y, rfl, hr2, hY, ht2, hm2⟩
        rw [HDD.out.1, HDD.out.2.2.1]
        rw [HDD.out.1] at hr2
        have hbw2 := Bm HW1.out hm2 (fun i h => h.1)
        have e1 := (hbw2.cell (p := ⟨ga, oa + j * 5 + 1, none⟩) hga).trans HD.out.2.1
        have lg2 : ga < w2.heap.size := Nat.lt_of_lt_of_le hga hbw2.size
        have HT2 := Lib.hid (ht2.keep (L := fun i => i = w2.heap.size) (Ba (B0 w2) (.cells #[.int .i64 d.f, .int .i64 d.t, .slice A2 d.bs.length c2] 31)) (fun i hi => .inl (by simp; omega)))
        have HR2 := Lib.hid hr2
        have HY := Lib.hid hY
        have HW2 := Lib.hid hbw2
        clear d0 d1 d2 d3 d4 hr2 hY ht2 hm2 hbw2
        go_wp2_with fail
        refine (take_b node HT2.out (by omega)).mono ?_
        rintro e w3 ⟨A3, c3, Z, rfl, hr3, hZ, ht3, hm3⟩
        rw [HDD.out.2.1, HDD.out.2.2.2]
        rw [HDD.out.2.1] at hr3
        have hx3 := (Blk.new w2 31 #[.int .i64 d.f, .int .i64 d.t, .slice A2 d.bs.length c2]).kept hm3 (fun h => h.1.2 rfl)
        obtain ⟨f0, f1, f2, _⟩ := blk3 hx3
        have lx3 := hx3.lt
        have HR3 := Lib.hid (((HR2.out.below (Ba (B0 w2) (.cells #[.int .i64 d.f, .int .i64 d.t, .slice A2 d.bs.length c2] 31)) HY.out).kept hm3 (fun i hi h => h.2 hi)).below (Ba (B0 w3) (.cells #[.int .i64 d.f, .int .i64 d.t, .slice A3 d.bs.length c3] 31)) (fun i hi => by have := HY.out i hi; omega))
        have HR4 := Lib.hid (hr3.below (Ba (B0 w3) (.cells #[.int .i64 d.f, .int .i64 d.t, .slice A3 d.bs.length c3] 31)) hZ)
        have HZ := Lib.hid hZ
        have HT3 := Lib.hid (ht3.free.keep (L := No) (Ba (B0 w3) (.cells #[.int .i64 d.f, .int .i64 d.t, .slice A3 d.bs.length c3] 31)) (fun i h => h.elim))
        have HW3 := Lib.hid (Ba (Bm (Ba HW2.out (.cells #[.int .i64 d.f, .int .i64 d.t, .slice A2 d.bs.length c2] 31)) hm3 (fun i h => h.1.1)) (.cells #[.int .i64 d.f, .int .i64 d.t, .slice A3 d.bs.length c3] 31))
        clear e1 hr3 hZ ht3 hm3 hx3
        go_wp2_with fail
        refine (same_any Y Z d.f d.t d.f d.t A2 A3 c2 c3 d.bs d.bs _ HR3.out (fun i hi => by have := HY.out i hi; simp; omega) HR4.out (fun i hi => by have := HZ.out i hi; simp; omega)).mono ?_
        rintro e w4 ⟨rfl, hb4⟩
        rw [same_refl]
        have HTZ := HT3.out.below hb4
        have HTD9 := Lib.hid (tied_take HTD.out node)
        have HW9 := Lib.hid (Bt HW3.out hb4)
        have hle9 := reftakL_le ds node
        clear hb4 f0 f1 f2
        have HT9 := Lib.hid (HTZ : Tri W.heap.size No No w4 a (takQ q node) b (reftakL ds node) o)
        clear HTZ
        go_wp2_with fail
        go_loopw [13] (fun n wr => ∃ m : Int, -1 ≤ m ∧ m ≤ 10 ∧ n = .int .i64 m ∧ w4 = wr) (fun n _ => (10 - intOf n).toNat)
        case atStart => exact ⟨-1, by omega, by omega, rfl, rfl⟩
        case round =>
          obtain ⟨m, hm1, hm2, rfl, rfl⟩ := hrel
          by_cases hm : m ≤ 9
          · obtain ⟨cn, hcn⟩ : ∃ cn : Int, cn = (cntF (reftakL ds node) m : Int) := ⟨_, rfl⟩
            have hne : (cn != cn) = false := by simp
            have HC := Lib.hid (And.intro (tied_len HTD9.out m) hcn.symm)
            clear hcn
            go_wp2_with fail
            refine (len_a m HT9.out).mono ?_
            rintro e w' ⟨rfl, rfl⟩
            rw [HC.out.1, HC.out.2]
            go_wp2_with fail
            refine (len_b m HT9.out (by omega)).mono ?_
            rintro e w' ⟨rfl, rfl⟩
            rw [HC.out.2]
            go_wp2_with fail
            go_roundw
            case rel => exact ⟨m + 1, by omega, by omega, by first | rfl | trivial, by first | rfl | trivial⟩
            case measure => simp [intOf]; omega
          · obtain rfl : m = 10 := by omega
            go_wp2_with fail
            go_roundw
            case rel => exact ⟨j + 1, (takQ q node), (reftakL ds node), by omega, by omega, by go_num, HTD9.out, by omega, HT9.out, HW9.out⟩
            case measure => simp [intOf]; omega
    · have hend : (¬ (j : Int) < (ls.length : Int)) ∨ ((j : Int) < (ls.length : Int) ∧ ¬ (j : Int) < 100) := by omega
      clear hlt
      rcases hend with hend | ⟨hend, hend2⟩
      all_goals
        go_wp2_with fail
        go_loopw [14] (fun n wr => ∃ (k : Nat) (q : Nat → List Dg) (ds : List Dg), k ≤ 10 ∧ n = .int .i64 k ∧ Tied q ds ∧ ds.length ≤ 100 ∧ Tri W.heap.size No No wr a q b ds o ∧ Below W.heap.size W wr) (fun n _ => 10 - (intOf n).toNat)
        case atStart => exact ⟨0, q, ds, by omega, rfl, HTD.out, by omega, HT.out, HWO.out⟩
        case round =>
          obtain ⟨k, q, ds, hk, rfl, htd, hdl, ht, hbw⟩ := hrel
          have HTD := Lib.hid htd
          have HT := Lib.hid ht
          have HWR := Lib.hid hbw
          clear htd ht hbw
          obtain ⟨wu, rfl⟩ : ∃ wu, wu = wr := ⟨_, rfl⟩
          by_cases hk10 : k < 10
          · have hk10' : (k : Int) < 10 := by omega
            have hk0 : (0 : Int) ≤ (k : Int) := by omega
            go_wp2_with fail
            go_loopw [16] (fun e wr => ∃ (q : Nat → List Dg) (ds : List Dg), Tied q ds ∧ ds.length ≤ 100 ∧ Tri W.heap.size No No wr a q b ds o ∧ Below W.heap.size W wr) (fun _ wr => lenOfW wr b)
            case atStart => exact ⟨q, ds, HTD.out, hdl, HT.out, HWR.out⟩
            case round =>
              obtain ⟨q, ds, htd, hdl, ht, hbw⟩ := hrel
              obtain ⟨wv, rfl⟩ : ∃ wv, wv = wr := ⟨_, rfl⟩
              have HTD := Lib.hid htd
              have HT := Lib.hid ht
              have HWR := Lib.hid hbw
              clear htd ht hbw
              by_cases h0 : cntF ds k = 0
              · have HH0 := Lib.hid h0
                clear h0
                go_wp2_with fail
                refine (len_b k HT.out (by omega)).mono ?_
                rintro e w' ⟨rfl, rfl⟩
                rw [HH0.out]
                go_wp2_with fail
                go_roundw
                case rel => exact ⟨k + 1, q, ds, by omega, by go_num, HTD.out, hdl, HT.out, HWR.out⟩
                case measure => simp [intOf]; omega
              · have hnode : nodeB k = true := by
                  cases hn : nodeB k
                  · exact absurd (cnt_node HTD.out hn) h0
                  · rfl
                have HLT : Hid ((reftakL ds k).length < ds.length) := Lib.hid (reftakL_lt hnode h0)
                have HLN := Lib.hid (tri_len HT.out)
                obtain ⟨cn, hcn⟩ : ∃ cn : Int, cn = (cntF ds k : Int) := ⟨_, rfl⟩
                have hcn0 : (0 : Int) < cn := by omega
                have HCN := Lib.hid hcn.symm
                obtain ⟨d, hd⟩ : ∃ d, d = reftakD ds k := ⟨_, rfl⟩
                obtain ⟨te, hte⟩ : ∃ te, te = reftakE ds k := ⟨_, rfl⟩
                have HDD := Lib.hid (And.intro ((tied_takD HTD.out k).trans hd.symm) (And.intro hd.symm (And.intro ((tied_takE HTD.out k).trans hte.symm) hte.symm)))
                have hne : (te != te) = false := by simp
                clear hd hte hcn h0 hnode
                go_wp2_with fail
                refine (len_b k HT.out (by omega)).mono ?_
                rintro e w' ⟨rfl, rfl⟩
                rw [HCN.out]
                go_wp2_with fail
                refine (take_a k HT.out).mono ?_
                rintro e w2 ⟨A2, c2, Y, rfl, hr2, hY, ht2, hm2⟩
                rw [HDD.out.1, HDD.out.2.2.1]
                rw [HDD.out.1] at hr2
                have HT2 := Lib.hid (ht2.keep (L := fun i => i = w2.heap.size) (Ba (B0 w2) (.cells #[.int .i64 d.f, .int .i64 d.t, .slice A2 d.bs.length c2] 31)) (fun i hi => .inl (by simp; omega)))
                have HR2 := Lib.hid hr2
                have HY := Lib.hid hY
                have HW2 := Lib.hid (Bm HWR.out hm2 (fun i h => h.1))
                clear hr2 hY ht2 hm2
                go_wp2_with fail
                refine (take_b k HT2.out (by omega)).mono ?_
                rintro e w3 ⟨A3, c3, Z, rfl, hr3, hZ, ht3, hm3⟩
                rw [HDD.out.2.1, HDD.out.2.2.2]
                rw [HDD.out.2.1] at hr3
                have hx3 := (Blk.new w2 31 #[.int .i64 d.f, .int .i64 d.t, .slice A2 d.bs.length c2]).kept hm3 (fun h => h.1.2 rfl)
                obtain ⟨f0, f1, f2, _⟩ := blk3 hx3
                have lx3 := hx3.lt
                have HR3 := Lib.hid (((HR2.out.below (Ba (B0 w2) (.cells #[.int .i64 d.f, .int .i64 d.t, .slice A2 d.bs.length c2] 31)) HY.out).kept hm3 (fun i hi h => h.2 hi)).below (Ba (B0 w3) (.cells #[.int .i64 d.f, .int .i64 d.t, .slice A3 d.bs.length c3] 31)) (fun i hi => by have := HY.out i hi; omega))
                have HR4 := Lib.hid (hr3.below (Ba (B0 w3) (.cells #[.int .i64 d.f, .int .i64 d.t, .slice A3 d.bs.length c3] 31)) hZ)
                have HZ := Lib.hid hZ
                have HT3 := Lib.hid (ht3.free.keep (L := No) (Ba (B0 w3) (.cells #[.int .i64 d.f, .int .i64 d.t, .slice A3 d.bs.length c3] 31)) (fun i h => h.elim))
                have HW3 := Lib.hid (Ba (Bm (Ba HW2.out (.cells #[.int .i64 d.f, .int .i64 d.t, .slice A2 d.bs.length c2] 31)) hm3 (fun i h => h.1.1)) (.cells #[.int .i64 d.f, .int .i64 d.t, .slice A3 d.bs.length c3] 31))
                clear hr3 hZ ht3 hm3 hx3
                go_wp2_with fail
                refine (same_any Y Z d.f d.t d.f d.t A2 A3 c2 c3 d.bs d.bs _ HR3.out (fun i hi => by have := HY.out i hi; simp; omega) HR4.out (fun i hi => by have := HZ.out i hi; simp; omega)).mono ?_
                rintro e w4 ⟨rfl, hb4⟩
                rw [same_refl]
                have HT4 := Lib.hid (HT3.out.below hb4)
                have HTD9 := Lib.hid (tied_take HTD.out k)
                have HW9 := Lib.hid (Bt HW3.out hb4)
                have hle9 := reftakL_le ds k
                clear hb4 f0 f1 f2
                go_wp2_with fail
                go_roundw
                case rel => exact ⟨_, _, HTD9.out, by omega, HT4.out, HW9.out⟩
                case measure => rw [tri_len HT4.out, HLN.out]; exact HLT.out
          · obtain rfl : k = 10 := by omega
            go_wp2_with fail
            refine (works_any _).mono ?_
            rintro e w5 ⟨rfl, hb5⟩
            go_wp2_with fail
            go_ret
            exact ⟨rfl, Bt HWR.out hb5⟩

theorem relayDeeds_walk {H : Type} {enc : TypeId × Value → H} (W : World) {base : Nat} {sp : Nat → Bool} {held : Bool} {v : Value} {d : DataW H} {p : List MemPlace} (hv : Value.okWide Try.prog W .any base 22 v) (ht : DataW.Trod enc Try.prog W 0 sp held 22 v d p)
    (hz : ∀ n ∈ d.weights Try.prog 22, n ≤ reachBytes) :
    Calls Try.prog 3 #[v] W fun e w' => e = .returned (.bool true) ∧ Below W.heap.size W w' := by
  obtain ⟨A, c, l, rfl, hl⟩ := open_deeds hv ht hz
  exact relayDeeds_list W A c l hl
end Go.Proofs.Ytdnbbjhickjnmaa
