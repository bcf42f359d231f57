/- A table is set. -/
import Derived.Test.YtgmndppjdnpejaaB13
import Derived.Deep.RegionLaw
namespace Go.Proofs.Ytgmndppjdnpejaa
open Go.RowKit
open Go.Maps (Keyed)
set_option maxRecDepth 20000
set_option linter.unusedVariables false
set_option linter.unusedSimpArgs false

/-- What the loop of Set keeps. -/
def SetAt (w0 wr : World) (b0 bk bn : Nat) (ps : List Pe) (k : Nat) (qs : List Pe) : Prop :=
  k ≤ ps.length ∧ qs.map Pe.px = (ps.take k).map Pe.px ∧ (∃ fk fn, MapIs wr 31 bk k fk ∧ MapIs wr 3 bn k fn ∧ FkIs fk qs ∧ FnIs fn qs) ∧ (∀ p ∈ qs, PeAt wr (fun i => b0 ≤ i ∧ i < wr.heap.size) p) ∧ Mod (fun i => i = bk ∨ i = bn) w0 wr ∧ b0 ≤ wr.heap.size
theorem SetAt.next {w0 w5 : World} {b0 bk bn : Nat} {ps : List Pe} {k : Nat} {qs : List Pe} {p q : Pe} (hk : k < ps.length) (hp : p = ps[k]) (hpx : qs.map Pe.px = (ps.take k).map Pe.px) (hq : q.px = p.px) {fk fn : Value → Option Value} (h1 : MapIs w5 31 bk (k + 1) (updF fk (.agg (bts q.ks).toArray) (.int .i64 q.nd))) (h2 : MapIs w5 3 bn (k + 1) (updF fn (.int .i64 q.nd) q.v))
    (hfk : FkIs fk qs) (hfn : FnIs fn qs) (hpe : ∀ p ∈ qs, PeAt w5 (fun i => b0 ≤ i ∧ i < w5.heap.size) p) (hqe : PeAt w5 (fun i => b0 ≤ i ∧ i < w5.heap.size) q) (hm : Mod (fun i => i = bk ∨ i = bn) w0 w5) (hb : b0 ≤ w5.heap.size) : SetAt w0 w5 b0 bk bn ps (k + 1) (qs ++ [q]) := by
  refine ⟨hk, ?_, ⟨_, _, h1, h2, fk_snoc hfk q, fn_snoc hfn q⟩, fun x hx => ?_, hm, hb⟩
  · rw [List.map_append, hpx, List.take_succ_eq_append_getElem hk, List.map_append, ← hp]
    simp [hq]
  · rcases List.mem_append.1 hx with hx | hx
    · exact hpe x hx
    · rw [List.mem_singleton] at hx; rw [hx]; exact hqe
theorem PeAt.mono' {w : World} {S T : Nat → Prop} {p : Pe} (h : PeAt w S p) (hd : ∀ i, S i → T i) : PeAt w T p := ⟨h.k32, h.kb, h.ri.mono hd, h.ro.mono hd⟩
theorem pe_set_in {p : Pe} (hk : p.ks.length = 32) (A : Option Addr) (c : Nat) : p.L.toArray.setIfInBounds 34 (.slice A p.ins.length c) = ({ p with IA := A, ic := c } : Pe).L.toArray := by
  have hl : (bts p.ks).length = 32 := by rw [bts_length]; exact hk
  simp only [Pe.L, List.setIfInBounds_toArray]
  rw [show 34 = (32 + 1) + 1 by omega, List.set_cons_succ, List.set_append_right _ _ (by omega), hl]
  rfl
theorem pe_set_out {p : Pe} (hk : p.ks.length = 32) (A : Option Addr) (c : Nat) : p.L.toArray.setIfInBounds 35 (.slice A p.outs.length c) = ({ p with OA := A, oc := c } : Pe).L.toArray := by
  have hl : (bts p.ks).length = 32 := by rw [bts_length]; exact hk
  simp only [Pe.L, List.setIfInBounds_toArray]
  rw [show 35 = (32 + 2) + 1 by omega, List.set_cons_succ, List.set_append_right _ _ (by omega), hl]
  rfl
/-- A peer whose spans are its own. -/
theorem pe_cloned {wp wd : World} {pb : Nat} {p : Pe} {Sm : Nat → Prop} (hp : PeAt wp Sm p) (hb : Blk wp pb 43 p.L.toArray) (hbd : Below wp.heap.size wp wd) {A1 A2 : Option Addr} {c1 c2 B1 B2 : Nat} (h1 : wd.ownsRow B1 45 2 (.slice A1 p.ins.length c1) p.ins.length (rowS p.ins)) (h2 : wd.ownsRow B2 45 2 (.slice A2 p.outs.length c2) p.outs.length (rowS p.outs)) (hB1 : wp.heap.size ≤ B1) (hB2 : wp.heap.size ≤ B2) :
    ∃ q : Pe, q.px = p.px ∧ Blk ((wd.setCell ⟨pb, 34, none⟩ (.slice A1 p.ins.length c1)).setCell ⟨pb, 35, none⟩ (.slice A2 p.outs.length c2)) pb 43 q.L.toArray ∧ PeAt ((wd.setCell ⟨pb, 34, none⟩ (.slice A1 p.ins.length c1)).setCell ⟨pb, 35, none⟩ (.slice A2 p.outs.length c2)) (fun i => pb < i ∧ i < ((wd.setCell ⟨pb, 34, none⟩ (.slice A1 p.ins.length c1)).setCell ⟨pb, 35, none⟩ (.slice A2 p.outs.length c2)).heap.size) q ∧
      Mod (fun i => i = pb) wp ((wd.setCell ⟨pb, 34, none⟩ (.slice A1 p.ins.length c1)).setCell ⟨pb, 35, none⟩ (.slice A2 p.outs.length c2)) := by
  have hlt := hb.lt
  have m1 : Mod (fun i => i = pb) wd ((wd.setCell ⟨pb, 34, none⟩ (.slice A1 p.ins.length c1)).setCell ⟨pb, 35, none⟩ (.slice A2 p.outs.length c2)) := ((Mod.refl (fun i => i = pb) wd).setCell (p := ⟨pb, 34, none⟩) (.inl rfl) _).setCell (p := ⟨pb, 35, none⟩) (.inl rfl) _
  refine ⟨{ p with IA := A1, ic := c1, OA := A2, oc := c2 }, rfl, ?_, ⟨hp.k32, hp.kb, ?_, ?_⟩, (Mod.of_below (S := fun i => i = pb) hbd).trans m1 (fun i hi => .inl hi)⟩
  · have := ((hb.later hbd).set_ 34 (.slice A1 p.ins.length c1)).set_ 35 (.slice A2 p.outs.length c2)
    rw [pe_set_in hp.k32] at this
    have e := pe_set_out (p := { p with IA := A1, ic := c1 }) hp.k32 A2 c2
    simp only at e
    rw [e] at this
    exact this
  · refine ((Rd.of_own h1).kept m1 (fun i hi e => ?_)).mono (fun i hi => ⟨?_, ?_⟩)
    · have := own_ge h1 i hi; omega
    · have := own_ge h1 i hi; omega
    · simpa using own_lt h1 i hi
  · refine ((Rd.of_own h2).kept m1 (fun i hi e => ?_)).mono (fun i hi => ⟨?_, ?_⟩)
    · have := own_ge h2 i hi; omega
    · have := own_ge h2 i hi; omega
    · simpa using own_lt h2 i hi
/-- What Set leaves, where it sets. -/
def SetDid (m : Nm) (g : Nat) (node tick : Int) (W : World) (e : Ending) (w' : World) : Prop :=
  ∃ qs, e = .returned (.int .i64 0) ∧ TbAt w' (fun i => i = g ∨ (W.heap.size ≤ i ∧ i < w'.heap.size)) g node tick m.ver qs ∧ qs.map Pe.px = m.ps.map Pe.px ∧ Mod (fun i => i = g) W w'
set_option maxHeartbeats 4000000 in
theorem set_ok (Sm S : Nat → Prop) (m : Nm) (g : Nat) (node tick ver : Int) (ps0 : List Pe) (W : World) (hm : NmAt W Sm m) (hSm : ∀ i, Sm i → i < W.heap.size ∧ i ≠ g) (h : TbAt W S g node tick ver ps0) (hn : 1 ≤ node) (h1 : nmB m = true) (h2 : m.node = node) (h3 : ver ≤ m.ver) :
    Calls Try.prog 13 #[.pointer (some ⟨g, 0, none⟩), m.v] W (SetDid m g node tick W) := by
  obtain ⟨w1, hw1⟩ : ∃ u, u = W.alloc (.cells m.L.toArray 34) := ⟨_, rfl⟩
  have hb1 : Below W.heap.size W w1 := by rw [hw1]; exact Ba (B0 W) _
  obtain ⟨mk, mn, htb, _⟩ := (h.below hb1).maps
  have HT := Lib.hid htb
  have HM := Lib.hid (hm.below hb1 (fun i hi => (hSm i hi).1))
  have HSM := Lib.hid hSm
  have HG := Lib.hid (show Blk w1 W.heap.size 34 m.L.toArray by rw [hw1]; exact Blk.new _ _ _)
  have HB1 := Lib.hid hb1
  have HW1 := Lib.hid hw1
  have HML := Lib.hid (Nm.len hm.k32)
  have HMK := Lib.hid hm.k32
  have HCE := Lib.hid (chkE_ok h1)
  have HOK := Lib.hid (nm_ok h1)
  have hgW : g < W.heap.size := by obtain ⟨t1, t2, _⟩ := h; exact t2 _ t1
  obtain ⟨mnode, hmn⟩ : ∃ x, x = m.node := ⟨_, rfl⟩
  obtain ⟨mver, hmv⟩ : ∃ x, x = m.ver := ⟨_, rfl⟩
  have HMN := Lib.hid hmn
  have HMV := Lib.hid hmv
  have hq2 : (mnode != node) = false := by rw [hmn, h2]; simp
  have hq3 : ¬ mver < ver := by rw [hmv]; omega
  have hq3' : decide (mver < ver) = false := decide_eq_false hq3
  have lW := HG.out.lt
  have hmm := @run_makeMap Try.prog
  have HH2 := Lib.hid h2
  clear h hm hSm hb1 hw1 htb h1 hmn hmv h2 h3
  go_enter Try.func13, Try.ntmps13
  go_upto_region 1 with fail
  change Code.wp _ _ _ _ (W.alloc (.cells m.L.toArray 34))
  rw [← HW1.out]
  go_wp2_with (first | (go_at_call 33; refine (none_any g node tick ver mk mn _ HT.out hn).mono ?_; rintro e w' ⟨rfl, rfl⟩) | (refine step_load big_map rfl (.tmp 3) rfl W.heap.size 0 rfl m.L HML.out (blk_range HG.out) ?_) | fail)
  refine (check_any Sm m w1 HM.out (fun i hi => by have := (HSM.out i hi).1; omega)).mono ?_
  rw [HCE.out]
  rintro e w2 ⟨rfl, hb2⟩
  have HB2 := Lib.hid (Bt HB1.out hb2)
  have HG2 := Lib.hid (HG.out.later hb2)
  have HT2 := Lib.hid (HT.out.later hb2)
  have HM2 := Lib.hid (HM.out.below hb2 (fun i hi => by have := (HSM.out i hi).1; omega))
  obtain ⟨x0, _, x2, _, _, x36⟩ := nm_cells (blk_range HG2.out) HMK.out
  simp only [Nat.zero_add] at x0 x2 x36
  rw [← HMV.out] at x0
  rw [← HMN.out] at x2
  have y0 : w2.cell? ⟨g, 0, none⟩ = some (.int .i64 node) := HT2.out.cell 0
  have y2 : w2.cell? ⟨g, 2, none⟩ = some (.int .i64 ver) := HT2.out.cell 2
  have y3 : w2.cell? ⟨g, 3, none⟩ = some (.map mk) := HT2.out.cell 3
  have y4 : w2.cell? ⟨g, 4, none⟩ = some (.map mn) := HT2.out.cell 4
  have f2 := HT2.out.frozen 2
  have f3 := HT2.out.frozen 3
  have f4 := HT2.out.frozen 4
  have lg := HT2.out.lt
  have lm := HG2.out.lt
  have hgm : g ≠ W.heap.size := by omega
  have hgm2 : W.heap.size ≠ g := by omega
  clear hb2
  go_wp2_with fail
  go_quiet (fail)
  obtain ⟨na, hna⟩ : ∃ n, n = nq := ⟨_, rfl⟩
  rw [← hna]
  clear hna
  go_wp2_with fail
  go_quiet (fail)
  go_wp2_with fail
  obtain ⟨wy, hwy⟩ : ∃ u, u = (((w2.drewN (na + nq)).setCell ⟨g, 2, none⟩ (.int .i64 mver)).setCell ⟨g, 3, none⟩ (.map (some w2.heap.size))).setCell ⟨g, 4, none⟩ (.map (some (w2.heap.size + 1))) := ⟨_, rfl⟩
  rw [← hwy]
  have hsy : wy.heap.size = w2.heap.size := by rw [hwy]; simp [World.drewN]
  have HMY := Lib.hid (show Mod (fun i => i = g) w2 wy by rw [hwy]; exact (((Mod.of_below (S := fun i => i = g) (BdN (B0 w2) _)).setCell (p := ⟨g, 2, none⟩) (.inl rfl) _).setCell (p := ⟨g, 3, none⟩) (.inl rfl) _).setCell (p := ⟨g, 4, none⟩) (.inl rfl) _)
  have HTY := Lib.hid (show Blk wy g 71 (tbCs node tick mver (some w2.heap.size) (some (w2.heap.size + 1))) by rw [hwy]; exact (((HT2.out.drewN _).set_ 2 _).set_ 3 _).set_ 4 _)
  clear hwy x0 x2 x36 y0 y2 y3 y4 f2 f3 f4 lg lm
  obtain ⟨w0, hw0⟩ : ∃ u, u = (wy.alloc (.map #[] 0)).alloc (.map #[] 0) := ⟨_, rfl⟩
  rw [← hw0]
  have HM0 := Lib.hid (show Mod (fun i => i = g) w2 w0 by rw [hw0]; exact (HMY.out.alloc _).alloc _)
  have HT0 := Lib.hid (show Blk w0 g 71 (tbCs node tick mver (some w2.heap.size) (some (w2.heap.size + 1))) by rw [hw0]; exact (HTY.out.alloc _).alloc _)
  have hs0 : w0.heap.size = w2.heap.size + 2 := by rw [hw0]; simp [hsy]
  have HK0 := Lib.hid (show MapIs w0 31 w2.heap.size 0 (fun _ => none) by rw [hw0, ← hsy]; exact (MapIs.made wy _).later (Ba (B0 _) _))
  have HN0 := Lib.hid (show MapIs w0 3 (w2.heap.size + 1) 0 (fun _ => none) by
    have := MapIs.made (wy.alloc (.map #[] 0)) 3
    rw [show (wy.alloc (.map #[] 0)).heap.size = w2.heap.size + 1 by simp [hsy]] at this
    rw [hw0]; exact this)
  have HNM := Lib.hid (HM2.out.kept HM0.out (fun i hi => (HSM.out i hi).2))
  have hwB := HB2.out.size
  obtain ⟨bk, hbk⟩ : ∃ b, b = w2.heap.size := ⟨_, rfl⟩
  rw [← hbk] at HT0 HK0 HN0 hs0 hwB
  have HBK := Lib.hid hbk
  have hgb : g < bk := by omega
  clear hw0 HTY HMY hsy hbk
  go_loopw [46] (fun i wr => ∃ (k : Nat) (qs : List Pe), i = .int .i64 k ∧ SetAt w0 wr w0.heap.size bk (bk + 1) m.ps k qs) (fun i _ => m.ps.length - (intOf i).toNat)
  case atStart => exact ⟨0, [], rfl, Nat.zero_le _, rfl, ⟨_, _, HK0.out, HN0.out, fun _ => rfl, fun _ => rfl⟩, fun p hp => by simp at hp, Mod.refl _ _, Nat.le_refl _⟩
  case round =>
    obtain ⟨k, qs, rfl, hk, hpx, ⟨fk, fn, hmk, hmn, hfk, hfn⟩, hpe, hmod, hb0⟩ := hrel
    obtain ⟨wv, rfl⟩ : ∃ wv, wv = wr := ⟨_, rfl⟩
    have hcap := HNM.out.rp.cap.2
    have hc1 := hcap.1
    have hc2 := hcap.2
    unfold maxLen at hc2
    have HMK2 := Lib.hid (And.intro hmk (And.intro hmn (And.intro hfk hfn)))
    have HPE := Lib.hid hpe
    have HMO := Lib.hid hmod
    have HPX := Lib.hid hpx
    have HNV := Lib.hid (HNM.out.kept hmod (fun i hi e => by have := (HSM.out i hi).1; have := HB2.out.size; have := HBK.out; omega))
    have HTV := Lib.hid (HT0.out.kept hmod (fun e => by omega))
    clear hmk hmn hfk hfn hpe hmod hpx hcap
    by_cases hlt : k < m.ps.length
    · have hlt' : (k : Int) < (m.ps.length : Int) := by omega
      have hk0 : (0 : Int) ≤ (k : Int) := by omega
      obtain ⟨gp, op, hA, hgS, hra⟩ := row_at HNV.out.rp (rowP_n HNV.out.each) hlt
      obtain ⟨p, hp⟩ : ∃ p, p = m.ps[k] := ⟨_, rfl⟩
      rw [← hp] at hra
      have HRA := Lib.hid hra
      have HP0 := Lib.hid hp
      have HPP := Lib.hid (show PeAt wv Sm p by rw [hp]; exact HNV.out.each _ (List.getElem_mem hlt))
      have HPL := Lib.hid (show p.L.length = 36 from Pe.len HPP.out.k32)
      have HNL := Lib.hid (show p.ins.length ≤ 33 ∧ p.outs.length ≤ 33 by rw [hp]; exact HOK.out.len _ (List.getElem_mem hlt))
      have HND := Lib.hid (show 1 ≤ p.nd ∧ p.nd ≤ 8 by rw [hp]; exact HOK.out.nd _ (List.getElem_mem hlt))
      have HAA := Lib.hid hA
      clear hra hp hgS
      rw [HAA.out]
      clear hA
      go_upto_region 14 with (first | (refine step_load big_peer rfl (.tmp 48) rfl gp (op + k * 36) rfl p.L HPL.out HRA.out ?_) | (refine step_store big_peer rfl (.tmp 6) (.tmp 49) rfl wv.heap.size rfl p.L HPL.out p.one rfl 43 _ (Blk.new wv 43 _) rfl ?_; intro wp hbp hmp hsp; have HBP := Lib.hid hbp; have HMP := Lib.hid hmp; clear hbp hmp hsp) | fail)
      have hbe : Below wv.heap.size wv wp := Bm (Ba (B0 wv) _) HMP.out (fun i hi => by omega)
      have hsm : ∀ i, Sm i → i < wv.heap.size := fun i hi => by have := (HSM.out i hi).1; have := HB2.out.size; have := HBK.out; omega
      have hpc := pe_cells (blk_range HBP.out) HPP.out.k32
      simp only [Nat.zero_add] at hpc
      have y34 := hpc.2.2.2.1
      have y35 := hpc.2.2.2.2
      have fy34 := HBP.out.frozen 34
      have fy35 := HBP.out.frozen 35
      have lp := HBP.out.lt
      have HRI := Lib.hid (HPP.out.ri.below (Bt hbe (Bd (B0 wp))) hsm)
      have HSL := Lib.hid (show ∀ i, Sm i → i < wp.heap.size from fun i hi => Nat.lt_of_lt_of_le (hsm i hi) hbe.size)
      have HRO := Lib.hid (HPP.out.ro.below hbe hsm)
      clear hpc hbe hsm
      simp only [Act.put]
      go_cut [46] from 46 to 73 (fun i wx => ∃ q : Pe, i = .int .i64 k ∧ q.px = p.px ∧ Blk wx wv.heap.size 43 q.L.toArray ∧ PeAt wx (fun i => wv.heap.size < i ∧ i < wx.heap.size) q ∧ Mod (fun i => i = wv.heap.size) wp wx)
      case first =>
        go_region_law (first
          | (go_simp; go_at_call_of 34 (Value.slice p.IA p.ins.length p.ic); refine (clone_any Sm p.IA p.ic p.ins _ HRI.out HSL.out HNL.out.1).mono ?_; rintro e wc ⟨A1, c1, rfl, ho1, hb1⟩; have HO1 := Lib.hid ho1; have HBC := Lib.hid (Bt (Bd (B0 wp)) hb1); have yc35 := ((Bt (Bd (B0 wp)) hb1).cell (p := ⟨wv.heap.size, 35, none⟩) lp).trans y35; clear ho1 hb1)
          | (go_simp; go_at_call_of 34 (Value.slice p.OA p.outs.length p.oc); refine (clone_any Sm p.OA p.oc p.outs _ (HRO.out.below HBC.out HSL.out) (fun i hi => Nat.lt_of_lt_of_le (HSL.out i hi) HBC.out.size) HNL.out.2).mono ?_; rintro e wd ⟨A2, c2, rfl, ho2, hb2⟩; have HO2 := Lib.hid ho2; have HBD := Lib.hid (Bt HBC.out hb2); have HPD := Lib.hid (HBP.out.later (Bt HBC.out hb2)); have HO1D := Lib.hid (own_below HO1.out hb2); have zd34 := ((Bt HBC.out hb2).cell (p := ⟨wv.heap.size, 34, none⟩) lp).trans y34; have zd35 := ((Bt HBC.out hb2).cell (p := ⟨wv.heap.size, 35, none⟩) lp).trans y35; have fd34 := HPD.out.frozen 34; have fd35 := HPD.out.frozen 35; have ld := HPD.out.lt; clear ho2 hb2)
          | fail)
        all_goals
          obtain ⟨q, e1, e2, e3, e4⟩ := pe_cloned (HPP.out.below (Bm (Ba (B0 wv) _) HMP.out (fun i hi => by omega)) (fun i hi => by have := (HSM.out i hi).1; have := HB2.out.size; have := HBK.out; omega)) HBP.out HBD.out HO1D.out HO2.out (Nat.le_refl _) HBC.out.size
          go_wp2_with fail
          go_meet
          exact ⟨q, rfl, e1, e2, e3, e4⟩
      case rest =>
        obtain ⟨q, rfl, hqpx, hqb, hqe, hqm⟩ := hcut
        have HQB := Lib.hid hqb
        have HQE := Lib.hid hqe
        have HQX := Lib.hid hqpx
        have HQL := Lib.hid (Pe.len hqe.k32)
        have HLQ := Lib.hid (show (bts q.ks).length = 32 by rw [bts_length]; exact hqe.k32)
        have hMW : Mod (fun i => i = wv.heap.size) wv wc := (((Mod.refl (fun i => i = wv.heap.size) wv).alloc (.cells zPe.L.toArray 43)).trans HMP.out (fun i hi => .inl hi)).trans hqm (fun i hi => .inl hi)
        have HMW := Lib.hid hMW
        obtain ⟨hk1, hk2, hk3, hk4⟩ := HMK2.out
        have hbv : bk + 1 < wv.heap.size := by omega
        have HTC := Lib.hid (HTV.out.kept hMW (fun e => by omega))
        have HKC := Lib.hid (hk1.kept hMW (fun e => by omega))
        have HNC := Lib.hid (hk2.kept hMW (fun e => by omega))
        have HFK := Lib.hid (And.intro hk3 hk4)
        obtain ⟨kl, hkl⟩ := key_of hqe.kb hqe.k32
        have HKL := Lib.hid hkl
        have hqnd : q.nd = p.nd := congrArg Px.nd hqpx
        have HKI := Lib.hid (key_int (n := q.nd) (by have := HND.out; omega) (by have := HND.out; omega))
        have hS15 : ∀ w', Mod (fun i => i = bk ∨ i = bk + 1) wc w' → w'.cell? ⟨g, 3, none⟩ = some (.map (some bk)) ∧ w'.rangeAt wv.heap.size 1 (bts q.ks) ∧ w'.cell? ⟨wv.heap.size, 0, none⟩ = some (.int .i64 q.nd) ∧ w'.cell? ⟨g, 4, none⟩ = some (.map (some (bk + 1))) ∧ w'.rangeAt wv.heap.size 0 q.L := fun w' hm => by
          have t := HTC.out.kept hm (fun e => by omega)
          have b := HQB.out.kept hm (fun e => by omega)
          have hpc := pe_cells (blk_range b) HQE.out.k32
          rw [Nat.zero_add] at hpc
          exact ⟨t.cell 3, hpc.2.1, hpc.1, t.cell 4, blk_range b⟩
        have HSS := Lib.hid hS15
        clear hqb hqe hqm hqpx hMW hk1 hk2 hk3 hk4 hkl hS15 hqnd y34 y35 fy34 fy35 lp
        go_wp2_with fail
        refine wp_region_held_drew (S := fun w' => w'.cell? ⟨g, 3, none⟩ = some (.map (some bk)) ∧ w'.rangeAt wv.heap.size 1 (bts q.ks) ∧ w'.cell? ⟨wv.heap.size, 0, none⟩ = some (.int .i64 q.nd)) (by kernel_rfl) ⟨(HSS.out _ (Mod.of_below (Bd (B0 wc)))).1, (HSS.out _ (Mod.of_below (Bd (B0 wc)))).2.1, (HSS.out _ (Mod.of_below (Bd (B0 wc)))).2.2.1⟩ (fun hHeld => ?_)
        obtain ⟨we, hwe⟩ : ∃ u, u = wc.drew := ⟨_, rfl⟩
        rw [← hwe] at hHeld ⊢
        have HBE := Lib.hid (show Below wc.heap.size wc we by rw [hwe]; exact Bd (B0 wc))
        clear hwe
        refine wpAnyH_take (i := 0) (v := ?_) rfl (by kernel_rfl) (by kernel_rfl) (by kernel_rfl) (fun _ _ _ h => h) (Or.inl ⟨by kernel_rfl, ?_⟩) (by assumption) ?_
        rotate_left 1
        · (intro w hSw; (try dsimp only at hSw); go_simp; try with_reducible rfl)
        try simp only [Act.put, List.getElem_toArray, List.getElem_cons_succ, List.getElem_cons_zero, List.setIfInBounds_toArray, List.set_cons_zero, List.set_cons_succ]
        refine wpAnyH_take (i := 1) (v := ?_) rfl (by kernel_rfl) (by kernel_rfl) (by kernel_rfl) (fun _ _ _ h => h) (Or.inl ⟨by kernel_rfl, ?_⟩) (by assumption) ?_
        rotate_left 1
        · (intro w hSw; (try dsimp only at hSw); go_simp; try with_reducible rfl)
        try simp only [Act.put, List.getElem_toArray, List.getElem_cons_succ, List.getElem_cons_zero, List.setIfInBounds_toArray, List.set_cons_zero, List.set_cons_succ]
        refine wpAnyH_take (i := 2) (v := ?_) rfl (by kernel_rfl) (by kernel_rfl) (by kernel_rfl) (fun _ _ _ h => h) (Or.inl ⟨by kernel_rfl, ?_⟩) (by assumption) ?_
        rotate_left 1
        · (intro w hSw; (try dsimp only at hSw); go_simp; try with_reducible rfl)
        try simp only [Act.put, List.getElem_toArray, List.getElem_cons_succ, List.getElem_cons_zero, List.setIfInBounds_toArray, List.set_cons_zero, List.set_cons_succ]
        refine wpAnyH_take (i := 3) (v := ?_) rfl (by kernel_rfl) (by kernel_rfl) (by kernel_rfl) (fun _ _ _ h => h) (Or.inl ⟨by kernel_rfl, ?_⟩) (by assumption) ?_
        rotate_left 1
        · (intro w hSw; (try dsimp only at hSw); go_simp; try with_reducible rfl)
        try simp only [Act.put, List.getElem_toArray, List.getElem_cons_succ, List.getElem_cons_zero, List.setIfInBounds_toArray, List.set_cons_zero, List.set_cons_succ]
        refine wpAnyH_take (i := 4) (v := ?_) rfl (by kernel_rfl) (by kernel_rfl) (by kernel_rfl) (fun _ _ _ h => h) (Or.inl ⟨by kernel_rfl, ?_⟩) (by assumption) ?_
        rotate_left 1
        · (intro w hSw; (try dsimp only at hSw); go_simp; try with_reducible rfl)
        try simp only [Act.put, List.getElem_toArray, List.getElem_cons_succ, List.getElem_cons_zero, List.setIfInBounds_toArray, List.set_cons_zero, List.set_cons_succ]
        refine wpAnyH_take (i := 5) (v := ?_) rfl (by kernel_rfl) (by kernel_rfl) (by kernel_rfl) (fun _ _ _ h => h) (Or.inl ⟨by kernel_rfl, ?_⟩) (by assumption) ?_
        rotate_left 1
        · (intro w hSw; refine exec_load big_key (.tmp 62) ?_ wv.heap.size 1 ?_ (bts q.ks) HLQ.out hSw.2.1 <;> rfl)
        try simp only [Act.put, List.getElem_toArray, List.getElem_cons_succ, List.getElem_cons_zero, List.setIfInBounds_toArray, List.set_cons_zero, List.set_cons_succ]
        refine wpAnyH_take (i := 6) (v := ?_) rfl (by kernel_rfl) (by kernel_rfl) (by kernel_rfl) (fun _ _ _ h => h) (Or.inl ⟨by kernel_rfl, ?_⟩) (by assumption) ?_
        rotate_left 1
        · (intro w hSw; (try dsimp only at hSw); go_simp; try with_reducible rfl)
        try simp only [Act.put, List.getElem_toArray, List.getElem_cons_succ, List.getElem_cons_zero, List.setIfInBounds_toArray, List.set_cons_zero, List.set_cons_succ]
        refine wpAnyH_take (i := 7) (v := ?_) rfl (by kernel_rfl) (by kernel_rfl) (by kernel_rfl) (fun _ _ _ h => h) (Or.inl ⟨by kernel_rfl, ?_⟩) (by assumption) ?_
        rotate_left 1
        · (intro w hSw; (try dsimp only at hSw); go_simp; try with_reducible rfl)
        try simp only [Act.put, List.getElem_toArray, List.getElem_cons_succ, List.getElem_cons_zero, List.setIfInBounds_toArray, List.set_cons_zero, List.set_cons_succ]
        refine wpAnyH_ready (rs := [8]) (by kernel_rfl) (by simp) ?_
        refine AllReadyH.cons rfl (fun K hK => ?_) AllReadyH.nil
        refine wp_put (t := 68) (.tmp 61) (.tmp 63) (.tmp 65) rfl (HKC.out.later HBE.out) keyed_key Try.underlying68 (by unfold maxLen; omega) rfl (.agg (bts q.ks).toArray) (.int .i64 q.nd) rfl rfl HKL.out ?_
        intro w4 h4 hm4
        have H15K := Lib.hid h4
        have HM4 := Lib.hid (show Mod (fun i => i = bk ∨ i = bk + 1) wc w4 from (Mod.of_below (S := fun i => i = bk ∨ i = bk + 1) HBE.out).trans hm4 (fun i hi => .inl (.inl hi)))
        have H15N := Lib.hid ((HNC.out.later HBE.out).kept hm4 (fun e => by omega))
        clear h4 hm4
        refine hK.out _ _ (⟨(HSS.out _ HM4.out).1, (HSS.out _ HM4.out).2.1, (HSS.out _ HM4.out).2.2.1⟩) (fun hHeld => ?_)
        clear hK K
        try simp only [Act.put, List.getElem_toArray, List.getElem_cons_succ, List.getElem_cons_zero, List.setIfInBounds_toArray, List.set_cons_zero, List.set_cons_succ]
        refine wpAnyH_done (by kernel_rfl) ?_ _
        go_wp2_with fail
        refine wp_region_held_drew (S := fun w' => w'.cell? ⟨g, 4, none⟩ = some (.map (some (bk + 1))) ∧ w'.rangeAt wv.heap.size 0 q.L ∧ w'.cell? ⟨wv.heap.size, 0, none⟩ = some (.int .i64 q.nd)) (by kernel_rfl) ⟨(HSS.out _ (HM4.out.trans (Mod.of_below (S := fun _ => False) (Bd (B0 w4))) (fun i hi => hi.elim))).2.2.2.1, (HSS.out _ (HM4.out.trans (Mod.of_below (S := fun _ => False) (Bd (B0 w4))) (fun i hi => hi.elim))).2.2.2.2, (HSS.out _ (HM4.out.trans (Mod.of_below (S := fun _ => False) (Bd (B0 w4))) (fun i hi => hi.elim))).2.2.1⟩ (fun hHeld => ?_)
        obtain ⟨wf, hwf⟩ : ∃ u, u = w4.drew := ⟨_, rfl⟩
        rw [← hwf] at hHeld ⊢
        have HBF := Lib.hid (show Below w4.heap.size w4 wf by rw [hwf]; exact Bd (B0 w4))
        clear hwf
        refine wpAnyH_take (i := 0) (v := ?_) rfl (by kernel_rfl) (by kernel_rfl) (by kernel_rfl) (fun _ _ _ h => h) (Or.inl ⟨by kernel_rfl, ?_⟩) (by assumption) ?_
        rotate_left 1
        · (intro w hSw; (try dsimp only at hSw); go_simp; try with_reducible rfl)
        try simp only [Act.put, List.getElem_toArray, List.getElem_cons_succ, List.getElem_cons_zero, List.setIfInBounds_toArray, List.set_cons_zero, List.set_cons_succ]
        refine wpAnyH_take (i := 1) (v := ?_) rfl (by kernel_rfl) (by kernel_rfl) (by kernel_rfl) (fun _ _ _ h => h) (Or.inl ⟨by kernel_rfl, ?_⟩) (by assumption) ?_
        rotate_left 1
        · (intro w hSw; (try dsimp only at hSw); go_simp; try with_reducible rfl)
        try simp only [Act.put, List.getElem_toArray, List.getElem_cons_succ, List.getElem_cons_zero, List.setIfInBounds_toArray, List.set_cons_zero, List.set_cons_succ]
        refine wpAnyH_take (i := 2) (v := ?_) rfl (by kernel_rfl) (by kernel_rfl) (by kernel_rfl) (fun _ _ _ h => h) (Or.inl ⟨by kernel_rfl, ?_⟩) (by assumption) ?_
        rotate_left 1
        · (intro w hSw; (try dsimp only at hSw); go_simp; try with_reducible rfl)
        try simp only [Act.put, List.getElem_toArray, List.getElem_cons_succ, List.getElem_cons_zero, List.setIfInBounds_toArray, List.set_cons_zero, List.set_cons_succ]
        refine wpAnyH_take (i := 3) (v := ?_) rfl (by kernel_rfl) (by kernel_rfl) (by kernel_rfl) (fun _ _ _ h => h) (Or.inl ⟨by kernel_rfl, ?_⟩) (by assumption) ?_
        rotate_left 1
        · (intro w hSw; (try dsimp only at hSw); go_simp; try with_reducible rfl)
        try simp only [Act.put, List.getElem_toArray, List.getElem_cons_succ, List.getElem_cons_zero, List.setIfInBounds_toArray, List.set_cons_zero, List.set_cons_succ]
        refine wpAnyH_take (i := 4) (v := ?_) rfl (by kernel_rfl) (by kernel_rfl) (by kernel_rfl) (fun _ _ _ h => h) (Or.inl ⟨by kernel_rfl, ?_⟩) (by assumption) ?_
        rotate_left 1
        · (intro w hSw; (try dsimp only at hSw); go_simp; try with_reducible rfl)
        try simp only [Act.put, List.getElem_toArray, List.getElem_cons_succ, List.getElem_cons_zero, List.setIfInBounds_toArray, List.set_cons_zero, List.set_cons_succ]
        refine wpAnyH_take (i := 5) (v := ?_) rfl (by kernel_rfl) (by kernel_rfl) (by kernel_rfl) (fun _ _ _ h => h) (Or.inl ⟨by kernel_rfl, ?_⟩) (by assumption) ?_
        rotate_left 1
        · (intro w hSw; (try dsimp only at hSw); go_simp; try with_reducible rfl)
        try simp only [Act.put, List.getElem_toArray, List.getElem_cons_succ, List.getElem_cons_zero, List.setIfInBounds_toArray, List.set_cons_zero, List.set_cons_succ]
        refine wpAnyH_take (i := 6) (v := ?_) rfl (by kernel_rfl) (by kernel_rfl) (by kernel_rfl) (fun _ _ _ h => h) (Or.inl ⟨by kernel_rfl, ?_⟩) (by assumption) ?_
        rotate_left 1
        · (intro w hSw; refine exec_load big_peer (.tmp 6) ?_ wv.heap.size 0 ?_ q.L HQL.out hSw.2.1 <;> rfl)
        try simp only [Act.put, List.getElem_toArray, List.getElem_cons_succ, List.getElem_cons_zero, List.setIfInBounds_toArray, List.set_cons_zero, List.set_cons_succ]
        refine wpAnyH_ready (rs := [7]) (by kernel_rfl) (by simp) ?_
        refine AllReadyH.cons rfl (fun K hK => ?_) AllReadyH.nil
        refine wp_put (t := 69) (.tmp 69) (.tmp 71) (.tmp 72) rfl (H15N.out.later HBF.out) keyed_int Try.underlying69 (by unfold maxLen; omega) rfl (.int .i64 q.nd) q.v rfl rfl HKI.out ?_
        intro w5 h5 hm5
        have H16N := Lib.hid h5
        have HM16 := Lib.hid (show Mod (fun i => i = bk + 1) w4 w5 from (Mod.of_below (S := fun i => i = bk + 1) HBF.out).trans hm5 (fun i hi => .inl hi))
        have HM5 := Lib.hid (show Mod (fun i => i = bk ∨ i = bk + 1) wc w5 from HM4.out.trans HM16.out (fun i hi => .inl (.inr hi)))
        clear h5 hm5
        refine hK.out _ _ (⟨(HSS.out _ HM5.out).2.2.2.1, (HSS.out _ HM5.out).2.2.2.2, (HSS.out _ HM5.out).2.2.1⟩) (fun hHeld => ?_)
        clear hK K
        try simp only [Act.put, List.getElem_toArray, List.getElem_cons_succ, List.getElem_cons_zero, List.setIfInBounds_toArray, List.set_cons_zero, List.set_cons_succ]
        refine wpAnyH_done (by kernel_rfl) ?_ _
        go_wp2_with fail
        go_roundw
        case rel =>
          refine ⟨k + 1, qs ++ [q], by go_num, SetAt.next hlt HP0.out HPX.out HQX.out (H15K.out.kept HM16.out (fun e => by omega)) H16N.out HFK.out.1 HFK.out.2 ?_ ?_ ?_ ?_⟩
          · intro x hx
            refine (((HPE.out x hx).kept HMW.out (fun i hi e => by have := hi.2; omega)).kept HM5.out (fun i hi e => by have := hi.1; omega)).mono' (fun i hi => ⟨hi.1, Nat.lt_of_lt_of_le hi.2 (Nat.le_trans HMW.out.size HM5.out.size)⟩)
          · exact (HQE.out.kept HM5.out (fun i hi e => by have := hi.1; omega)).mono' (fun i hi => ⟨by have := hi.1; omega, Nat.lt_of_lt_of_le hi.2 HM5.out.size⟩)
          · exact (HMO.out.trans HMW.out (fun i hi => .inr (by omega))).trans HM5.out (fun i hi => .inl hi)
          · exact Nat.le_trans hb0 (Nat.le_trans HMW.out.size HM5.out.size)
        case measure => simp [intOf]; omega
    · obtain rfl : k = m.ps.length := by omega
      go_wp2_with fail
      go_ret
      obtain ⟨hk1, hk2, hk3, hk4⟩ := HMK2.out
      refine ⟨qs, rfl, ⟨.inl rfl, fun i hi => ?_, some bk, some (bk + 1), by rw [← HMV.out]; exact HTV.out, .inr ⟨bk, bk + 1, _, _, fk, fn, rfl, rfl, ⟨.inr ⟨by omega, by omega⟩, by omega⟩, ⟨.inr ⟨by omega, by omega⟩, by omega⟩, by omega, hk1, hk2, hk3, hk4, fun x hx => (HPE.out x hx).mono' (fun i hi => ⟨.inr ⟨by have := hi.1; omega, hi.2⟩, by have := hi.1; omega⟩)⟩⟩, by rw [HPX.out, List.take_length], ?_⟩
      · rcases hi with rfl | hi
        · omega
        · exact hi.2
      · exact ((Mod.of_below (S := fun i => i = g) HB2.out).trans HM0.out (fun i hi => .inl hi)).trans HMO.out (fun i hi => .inr (by omega))
end Go.Proofs.Ytgmndppjdnpejaa
