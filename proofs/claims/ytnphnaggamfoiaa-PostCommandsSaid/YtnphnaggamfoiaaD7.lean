/- Pack. -/
import Derived.Test.YtnphnaggamfoiaaD6
import Derived.OwnWalk
namespace Go.Proofs.Ytnphnaggamfoiaa
open Go.RowKit
set_option maxRecDepth 20000
set_option linter.unusedVariables false
set_option linter.unusedSimpArgs false

def headL (P : Po) : List Int := Wr.putL (Wr.putL (Wr.putL (Wr.putL [] P.kd 1) P.fr 1) P.to 1) P.te 7
theorem headL_len (P : Po) : (headL P).length ≤ 32 := by
  have h1 := wputL_len [] P.kd 1
  have h2 := wputL_len (Wr.putL [] P.kd 1) P.fr 1
  have h3 := wputL_len (Wr.putL (Wr.putL [] P.kd 1) P.fr 1) P.to 1
  have h4 := wputL_len (Wr.putL (Wr.putL (Wr.putL [] P.kd 1) P.fr 1) P.to 1) P.te 7
  unfold headL
  simp at h1
  omega
def packP (P : Po) (l : List Ed) (d : List Int) : List Int := bodyL (headL P) P l d
theorem packP_len {P : Po} {l : List Ed} (d : List Int) (h : May P l) (hd : d.length = P.sn) : (packP P l d).length ≤ 20000 := by
  have h0 := headL_len P
  unfold packP bodyL
  by_cases k1 : P.kd = 1
  · rw [if_pos k1]; have := putsL_len [(4, P.ix), (5, P.lt)] (headL P); simp at this; unfold wbody1; omega
  · rw [if_neg k1]
    by_cases k2 : P.kd = 2
    · rw [if_pos k2]; have := wputL_len (headL P) (if P.ok then 1 else 0) 1; unfold wbody2; omega
    · rw [if_neg k2]
      by_cases k3 : P.kd = 3
      · rw [if_pos k3]
        have a := putsL_len [(4, P.ix), (5, P.lt), (6, P.co), (8, P.hi)] (headL P)
        have b := wputL_len (putsL (headL P) [(4, P.ix), (5, P.lt), (6, P.co), (8, P.hi)]) (P.en : Int) 1
        have c := entsL_len l (fun x hx => by
          obtain ⟨k, hk, rfl⟩ := List.getElem_of_mem hx
          exact (ents_facts P.te h.te.2 l (P.ix + 1) P.lt h.lt.1 h.ents k hk).2.2.2.2.2) (Wr.putL (putsL (headL P) [(4, P.ix), (5, P.lt), (6, P.co), (8, P.hi)]) (P.en : Int) 1)
        have m := h.most
        simp at a
        unfold wbody3
        omega
      · rw [if_neg k3]
        by_cases k4 : P.kd = 4
        · rw [if_pos k4]
          have a := wputL_len (headL P) (if P.ok then 1 else 0) 1
          have b := putsL_len [(4, P.ix), (8, P.hi)] (Wr.putL (headL P) (if P.ok then 1 else 0) 1)
          simp at b
          unfold wbody4
          omega
        · rw [if_neg k4]
          by_cases k5 : P.kd = 5
          · rw [if_pos k5]
            have a := putsL_len [(8, P.hi), (10, P.si), (11, P.st)] (headL P)
            have b := wputL_len (putsL (headL P) [(8, P.hi), (10, P.si), (11, P.st)]) P.sc 1
            have c := woctL_len (Wr.putL (putsL (headL P) [(8, P.hi), (10, P.si), (11, P.st)]) P.sc 1) d
            simp at a
            have h8 : P.sn ≤ 8192 := by rcases h.snap0 with h | h; omega; omega
            unfold wbody5
            omega
          · rw [if_neg k5]; have := putsL_len [(4, P.ix), (8, P.hi)] (headL P); simp at this; unfold wbody6; omega
theorem May.swap {P : Po} {l : List Ed} (h : May P l) (A : Option Addr) (c : Nat) : May { P with EA := A, ec := c } l := by
  refine ⟨h.kd, h.fr, h.tq, h.ne, h.te, h.ix, h.co, h.hi, h.lt, ?_, h.ents, h.most, h.snap⟩
  have ha := h.al
  unfold alB Po.nums Po.bare at ha ⊢
  by_cases k1 : P.kd = 1
  · simp [k1] at ha ⊢; exact ha
  · by_cases k2 : P.kd = 2
    · simp [k2] at ha ⊢; exact ha
    · by_cases k3 : P.kd = 3
      · simp [k3] at ha ⊢; exact ha
      · by_cases k4 : P.kd = 4
        · simp [k4] at ha ⊢; exact ha
        · by_cases k5 : P.kd = 5
          · simp [k5] at ha ⊢; exact ha
          · simp [k1, k2, k3, k4, k5] at ha ⊢; exact ha
theorem infoE : (Try.prog.info? 46).map (fun i => (i.zero, i.size, i.bytes)) = some (some (.agg #[.int .i64 0, .int .i64 0, .int .i64 0, .slice none 0 0]), 4, 48) := by kernel_rfl

theorem pack_bad (S : Nat → Prop) (P : Po) (l : List En) (d : List Int) (W : World) (hp : PoAt W S P l d) (hc : chkB P (l.map En.ed) = false) :
    Calls Try.prog 27 #[P.v] W fun e w' => e = .returned (.tuple #[.slice none 0 0, .int .i64 2]) ∧ Below W.heap.size W w' := by
  have H := Lib.hid hp
  have HC := Lib.hid (chkE_no hc)
  clear hp hc
  go_enter Try.func27, Try.ntmps27
  go_wp2_with fail
  refine (check_any S P l _ (H.out.rd.below (Ba (B0 W) _) H.out.lt) (fun i hi => Nat.lt_of_lt_of_le (H.out.lt i hi) (by simp)) H.out.len H.out.most H.out.dmost).mono ?_
  rw [HC.out]
  rintro e w1 ⟨rfl, hb⟩
  have HB := Lib.hid (Bt (Ba (B0 W) _) hb)
  clear hb
  go_wp2_with fail
  go_ret2
  exact ⟨rfl, HB.out⟩

set_option maxHeartbeats 2000000 in
theorem pack_ok (S : Nat → Prop) (P : Po) (l : List En) (d : List Int) (W : World) (hp : PoAt W S P l d) (hc : chkB P (l.map En.ed) = true) :
    Calls Try.prog 27 #[P.v] W fun e w' => ∃ A c, e = .returned (.tuple #[.slice A (packP P (l.map En.ed) d).length c, .int .i64 0]) ∧ Fresh W w' A c (packP P (l.map En.ed) d) := by
  have H := Lib.hid hp
  have HC := Lib.hid (chkE_yes hc)
  have hm := may_of hc
  have HM := Lib.hid hm
  have h8 : P.en ≤ 8 := by have := hm.most; rw [List.length_map, hp.len] at this; exact this
  have HX := Lib.hid (show I64 P.kd ∧ (I64 P.fr ∧ I64 P.to ∧ I64 P.te) by
    have := hm.kd; have := hm.fr; have := hm.tq; have := hm.te; unfold I64; omega)
  obtain ⟨i0, hi0, hz0, hz1, hz2⟩ := info_parts infoE
  clear hp hc hm
  go_enter Try.func27, Try.ntmps27
  go_wp2_with fail
  refine (check_any S P l _ (H.out.rd.below (Ba (B0 W) _) H.out.lt) (fun i hi => Nat.lt_of_lt_of_le (H.out.lt i hi) (by simp)) H.out.len H.out.most H.out.dmost).mono ?_
  rw [HC.out]
  rintro e w1 ⟨rfl, hb⟩
  have HB := Lib.hid (Bt (Ba (B0 W) _) hb)
  have HG := Lib.hid ((Blk.new W 27 P.cs).later hb)
  have y9 : w1.cell? ⟨W.heap.size, 9, none⟩ = some (.slice P.EA P.en P.ec) := HG.out.cell 9
  have z9 := HG.out.frozen 9
  have lg := HG.out.lt
  clear hb
  go_wp2_with (at_builtin; refine wpList_append_rd _ rfl (.const (.slice none 0 0)) (.tmp 12) _ rfl W.heap.size 46 i0 _ 4 48 Try.underlying22 hi0 hz0 hz1 hz2 rfl (by omega) (.slice none 0 0) 0 [] rfl (World.ownsRow_nil _ _ _ _) S (.slice P.EA P.en P.ec) P.en (rowE l) rfl (H.out.rd.below HB.out H.out.lt) (rowE_one l) (by simp only [maxLen]; omega) (by omega) HB.out.size ?_; intro v1 w2 HA; simp only [Nat.zero_add, List.nil_append] at HA; obtain ⟨A2, c2, rfl⟩ := own_slice HA.own; have HG2 := Lib.hid (HG.out.grown HA.grown (by simp [Value.ownBlock])); have y92 : w2.cell? ⟨W.heap.size, 9, none⟩ = some (.slice P.EA P.en P.ec) := HG2.out.cell 9; have z92 := HG2.out.frozen 9; have lg2 := HG2.out.lt)
  clear y9 z9 y92 z92
  have HG3 := Lib.hid (show Blk (w2.setCell ⟨W.heap.size, 9, none⟩ (.slice A2 P.en c2)) W.heap.size 27 ({ P with EA := A2, ec := c2 } : Po).cs from HG2.out.set_ 9 (.slice A2 P.en c2))
  have hro : P.en = 0 ∨ ∃ ge rest, A2 = some ⟨ge, 0, none⟩ ∧ W.heap.size ≤ ge ∧ ge ≠ W.heap.size ∧ Blk (w2.setCell ⟨W.heap.size, 9, none⟩ (.slice A2 P.en c2)) ge 46 (rowA l rest) := by
    rcases Nat.eq_zero_or_pos P.en with h0 | h0
    · exact .inl h0
    · obtain ⟨ge, rest, he, hb, hk⟩ := own_row HA.own h0 (by omega)
      have hne := hk.ne_ HG2.out (by decide)
      exact .inr ⟨ge, rest, he, hb, hne, hk.far (p := ⟨W.heap.size, 9, none⟩) hne _⟩
  have HRO := Lib.hid hro
  have HB2 := Lib.hid (show Below W.heap.size W (w2.setCell ⟨W.heap.size, 9, none⟩ (.slice A2 P.en c2)) from Bs (HB.out.trans ⟨HA.grown.os, HA.grown.tape, HA.grown.output, HA.grown.size, fun k hk => HA.grown.block k (Nat.lt_of_lt_of_le hk HB.out.size) (by simp [Value.ownBlock])⟩) (Nat.le_refl _) _)
  clear hro HA HG HG2 lg lg2 HB
  obtain ⟨ws, hws⟩ : ∃ ws, ws = w2.setCell ⟨W.heap.size, 9, none⟩ (.slice A2 P.en c2) := ⟨_, rfl⟩
  rw [← hws] at HG3 HRO HB2 ⊢
  clear hws
  refine (Wr.write_in (fun _ => False) ws (fun i h => h.elim) ws.heap.size (Nat.le_refl _)).mono ?_
  rintro e w3 ⟨rfl, hw, hb⟩
  obtain ⟨p, hp⟩ : ∃ p, p = ws.heap.size + 1 := ⟨_, rfl⟩
  rw [← hp] at hw ⊢
  have lB := HB2.out.size
  have lB3 := hb.size
  have HG4 := Lib.hid (show Blk (w3.alloc (.cells #[.pointer (some ⟨p, 0, none⟩)] 66)) W.heap.size 27 _ from (HG3.out.later hb).alloc _)
  have H5 := Lib.hid (Blk.new w3 66 #[.pointer (some ⟨p, 0, none⟩)])
  have HRO4 := Lib.hid (show ∃ ge te rest, (P.en = 0 ∨ A2 = some ⟨ge, 0, none⟩) ∧ W.heap.size ≤ ge ∧ W.heap.size ≠ ge ∧ (Stay ws.heap.size (fun i => i = w3.heap.size) ge ∧ (0 < P.en → w3.heap.size ≠ ge)) ∧ Blk (w3.alloc (.cells #[.pointer (some ⟨p, 0, none⟩)] 66)) ge te (rowA l rest) by
    rcases HRO.out with h0 | ⟨ge, rest, h1, h2, h3, h4⟩
    · have hl0 : l = [] := List.eq_nil_of_length_eq_zero (H.out.len.trans h0)
      have := HG3.out.lt
      exact ⟨w3.heap.size, 66, [.pointer (some ⟨p, 0, none⟩)], .inl h0, by omega, by omega, ⟨.inr rfl, fun h => by omega⟩, by rw [hl0]; exact H5.out⟩
    · exact ⟨ge, _, rest, .inr h1, h2, fun h => h3 h.symm, ⟨.inl h4.lt, fun _ => by have := h4.lt; omega⟩, (h4.later hb).alloc _⟩)
  have H4 := Lib.hid (hw.keep (L := fun i => i = w3.heap.size) (Ba (B0 w3) (.cells #[.pointer (some ⟨p, 0, none⟩)] 66)) (fun i hi => .inl (by subst hi; simp)))
  have HB4 := Lib.hid (show Below W.heap.size W (w3.alloc (.cells #[.pointer (some ⟨p, 0, none⟩)] 66)) from Ba (Bt HB2.out hb) _)
  have hSg : Stay ws.heap.size (fun i => i = w3.heap.size) W.heap.size := .inl HG3.out.lt
  have hS5 : Stay ws.heap.size (fun i => i = w3.heap.size) w3.heap.size := .inr rfl
  obtain ⟨B, hB⟩ : ∃ B, B = ws.heap.size := ⟨_, rfl⟩
  obtain ⟨g5, hg5⟩ : ∃ g5, g5 = w3.heap.size := ⟨_, rfl⟩
  rw [← hB] at H4 HRO4 hSg hS5 lB
  rw [← hg5] at H5 H4 HRO4 hSg hS5
  have HBB := Lib.hid lB
  clear hw hb hp HG3 HRO HB2 lB3 hB lB
  go_wp2_with fail
  rw [← hg5]
  obtain ⟨P', hP⟩ : ∃ P', P' = ({ P with EA := A2, ec := c2 } : Po) := ⟨_, rfl⟩
  rw [← hP] at HG4
  obtain ⟨wa, hwa⟩ : ∃ wa, wa = w3.alloc (.cells #[.pointer (some ⟨p, 0, none⟩)] 66) := ⟨_, rfl⟩
  rw [← hwa] at HG4 H4 H5 HRO4 HB4 ⊢
  have HPP := Lib.hid hP
  have hnum : P'.en = P.en ∧ P'.EA = A2 ∧ P'.fr = P.fr ∧ P'.to = P.to ∧ P'.te = P.te ∧ P'.SA = P.SA ∧ P'.sn = P.sn ∧ P'.sk = P.sk := by rw [hP]; exact ⟨rfl, rfl, rfl, rfl, rfl, rfl, rfl, rfl⟩
  have HN := Lib.hid hnum
  obtain ⟨ge, te, rest, h1, h2, h3, h4, h5⟩ := HRO4.out
  have HR1 := Lib.hid (And.intro h1 (And.intro h2 (And.intro h3 h4)))
  have HR := Lib.hid h5
  clear hwa hP hnum hg5 h1 h2 h3 h4 h5 HRO4
  have h0 : (Wr.putL [] P.kd 1).length ≤ 8 := by have := wputL_len [] P.kd 1; simpa using this
  have HL0 := Lib.hid h0
  clear h0
  refine (wnum_any W.heap.size 0 _ _ P.kd 1 HX.out.1.2 wa H4.out HG4.out hSg (by rw [HPP.out]; rfl) (by simp)).mono ?_
  rintro e w4 ⟨rfl, hw, hm⟩
  replace H4 := Lib.hid hw
  replace HG4 := Lib.hid (HG4.out.kept hm hSg.not)
  replace H5 := Lib.hid (H5.out.kept hm hS5.not)
  replace HR := Lib.hid (HR.out.kept hm HR1.out.2.2.2.1.not)
  replace HB4 := Lib.hid (Bm HB4.out hm (fun i hi => Nat.le_trans HBB.out hi.1))
  have y5 : w4.cell? ⟨g5, 0, none⟩ = some (.pointer (some ⟨p, 0, none⟩)) := H5.out.cell 0
  have l5 := H5.out.lt
  clear hw hm
  go_wp2_with fail
  refine (whead_any W.heap.size P' (by rw [HN.out.2.2.1, HN.out.2.2.2.1, HN.out.2.2.2.2.1]; exact HX.out.2) w4 H4.out HG4.out hSg (by have := HL0.out; omega)).mono ?_
  rw [HN.out.2.2.1, HN.out.2.2.2.1, HN.out.2.2.2.2.1]
  rintro e w5 ⟨rfl, hw, hm⟩
  replace H4 := Lib.hid (show Wr.WrIn B (fun i => i = g5) w5 p (headL P) from hw)
  replace HG4 := Lib.hid (HG4.out.kept hm hSg.not)
  replace H5 := Lib.hid (H5.out.kept hm hS5.not)
  replace HR := Lib.hid (HR.out.kept hm HR1.out.2.2.2.1.not)
  replace HB4 := Lib.hid (Bm HB4.out hm (fun i hi => Nat.le_trans HBB.out hi.1))
  clear y5 l5
  have y5 : w5.cell? ⟨g5, 0, none⟩ = some (.pointer (some ⟨p, 0, none⟩)) := H5.out.cell 0
  have l5 := H5.out.lt
  clear hw hm
  go_wp2_with fail
  refine (wfields_all W.heap.size ge te rest P' l d (by rw [HPP.out]; exact HM.out.swap A2 c2) (H.out.len.trans HN.out.1.symm) w5 H4.out HG4.out hSg (by rw [HN.out.1, HN.out.2.1]; exact HR1.out.1) HR.out HR1.out.2.2.2.1 HR1.out.2.2.1
    (fun x hx => ((H.out.each x hx).1.below HB4.out H.out.lt).mono (fun i hi => ⟨Nat.lt_of_lt_of_le (H.out.lt i hi) HBB.out, fun h => by have := H.out.lt i hi; have := HR1.out.2.1; omega⟩))
    (by rw [HN.out.2.2.2.2.2.2.1]; exact H.out.dlen) (by rw [HN.out.2.2.2.2.2.1, HN.out.2.2.2.2.2.2.1, HN.out.2.2.2.2.2.2.2]; exact (H.out.data.below HB4.out H.out.lt).mono (fun i hi => Nat.lt_of_lt_of_le (H.out.lt i hi) HBB.out)) (by have := headL_len P; omega)).mono ?_
  rintro e w6 ⟨rfl, hw, hm⟩
  have hpk : bodyL (headL P) P' (l.map En.ed) d = packP P (l.map En.ed) d := by rw [HPP.out]; rfl
  rw [hpk] at hw
  replace H5 := Lib.hid (H5.out.kept hm (fun h => h.elim hS5.not (fun h => by
    exact HR1.out.2.2.2.2 (by have h4 := HN.out.1; omega) h.1)))
  have hle := packP_len d HM.out H.out.dlen
  replace H4 := Lib.hid hw
  replace HB4 := Lib.hid (Bm HB4.out hm (fun i hi => hi.elim (fun h => Nat.le_trans HBB.out h.1) (fun h => h.1 ▸ HR1.out.2.1)))
  have HXL := Lib.hid hle
  clear hw hm hpk y5 l5 hle
  have y5 : w6.cell? ⟨g5, 0, none⟩ = some (.pointer (some ⟨p, 0, none⟩)) := H5.out.cell 0
  have l5 := H5.out.lt
  go_wp2_with fail
  refine (Wr.out_in w6 H4.out (by have := HXL.out; omega)).mono ?_
  rintro e w7 ⟨A, c, rfl, hf⟩
  have HF := Lib.hid hf
  clear hf
  go_wp2_with fail
  go_ret2
  exact ⟨A, c, rfl, HF.out.post HB4.out (Mod.refl _ _)⟩
end Go.Proofs.Ytnphnaggamfoiaa
