/- A message's bytes, read back: the body of each kind (plain words, no walk). -/
import Derived.Test.YtnphnaggamfoiaaL3
namespace Go.Proofs.Ytnphnaggamfoiaa
open Go.RowKit
set_option maxRecDepth 20000
set_option linter.unusedVariables false
set_option linter.unusedSimpArgs false

/-- A message that may be, all of whose bytes are bytes. -/
structure Full (P : Po) (l : List Ed) (d : List Int) : Prop where
  may : May P l
  en : l.length = P.en
  sn : d.length = P.sn
  byl : ∀ x ∈ l, Byt x.bs
  byd : Byt d
theorem p1v : Wr.p256 1 = 256 := by decide
theorem p7v : Wr.p256 7 = 72057594037927936 := by decide
theorem r7_of {v : Int} (h : 0 ≤ v ∧ v ≤ 9007199254740991) : R7 v := by unfold R7; rw [p7v]; omega
theorem May.en0 {P : Po} {l : List Ed} (h : May P l) (k3 : P.kd ≠ 3) : P.en = 0 := by
  obtain ⟨_, _, c, _⟩ := h.zero
  unfold Po.bare at c
  by_cases k1 : P.kd = 1
  · simpa [k1] using c
  · by_cases k2 : P.kd = 2
    · simpa [k2] using c
    · by_cases k4 : P.kd = 4
      · simpa [k4] using c
      · by_cases k5 : P.kd = 5
        · simpa [k5] using c
        · simpa [k1, k2, k3, k4, k5] using c
theorem Full.l0 {P : Po} {l : List Ed} {d : List Int} (h : Full P l d) (k3 : P.kd ≠ 3) : l = [] := List.eq_nil_of_length_eq_zero (by rw [h.en, h.may.en0 k3])
theorem Full.d0 {P : Po} {l : List Ed} {d : List Int} (h : Full P l d) (k5 : P.kd ≠ 5) : d = [] := List.eq_nil_of_length_eq_zero (by
  rw [h.sn]; rcases h.may.snap0 with h | h; exact absurd h.1 k5; exact h.2.2.2.2)
theorem Full.edr {P : Po} {l : List Ed} {d : List Int} (h : Full P l d) : ∀ x ∈ l, EdR x := by
  intro x hx
  have hb := h.byl x hx
  obtain ⟨k, hk, rfl⟩ := List.getElem_of_mem hx
  have hf := ents_facts P.te h.may.te.2 l (P.ix + 1) P.lt h.may.lt.1 h.may.ents k hk
  have := h.may.te
  exact ⟨r7_of (by omega), ⟨by omega, by rw [p1v]; omega⟩, by omega, hb⟩
theorem mx_cut {s : St} {n : Int} (h0 : 0 ≤ n) (h8 : n ≤ 8) {r : List Int} (hr : Byt r) {k : Nat} (hs : s = ⟨(Wr.be 1 n ++ r).take k, 0⟩) : Cut s s.mx (Wr.be 1 n) r k (s.num 1 = n) := by
  have h1 := St.nx_cut (n := 1) (.inl rfl) h0 (by rw [p1v]; omega) hr hs
  rcases h1 with ⟨h, he⟩ | ⟨h, he, hq⟩
  · exact .inl ⟨h, by show ((s.nx 1).fail _ 4).e = 3; rw [St.fail_bad (by rw [he]; decide)]; exact he⟩
  · refine .inr ⟨h, ?_, hq⟩
    show (s.nx 1).fail _ 4 = _
    rw [decide_eq_false (by rw [hq]; omega)]
    exact he
theorem body_cut {P : Po} {l : List Ed} {d : List Int} (h : Full P l d) {s : St} {r : List Int} (hr : Byt r) {k : Nat} (hs : s = ⟨(bodyB P l d ++ r).take k, 0⟩) :
    Cut s (bS P.kd s) (bodyB P l d) r k (bP P.kd P.fr P.to P.te s = P.norm ∧ bL P.kd s = l ∧ bD P.kd s = d) := by
  have hm := h.may
  have hix := r7_of hm.ix
  have hte := hm.te
  have hlt := r7_of (v := P.lt) (by have := hm.lt; omega)
  have hco := r7_of hm.co
  have hhi := r7_of hm.hi
  have hkd := hm.kd
  by_cases k1 : P.kd = 1
  · have eb : bodyB P l d = be7 [P.ix, P.lt] := by unfold bodyB; rw [if_pos k1]
    have e1 : bS P.kd s = (s.nx 7).nx 7 := by unfold bS; rw [if_pos k1]; rfl
    rw [eb] at hs ⊢
    rw [e1]
    refine (nx2_cut hix hlt hr hs).mono (fun q => ⟨?_, ?_, ?_⟩)
    · rw [norm1 hm k1]; unfold bP rP1; rw [if_pos k1, q.1, q.2]
    · unfold bL; rw [if_neg (by omega), h.l0 (by omega)]
    · unfold bD; rw [if_neg (by omega), h.d0 (by omega)]
  · by_cases k2 : P.kd = 2
    · have eb : bodyB P l d = okB P.ok := by unfold bodyB; rw [if_neg k1, if_pos k2]
      have e1 : bS P.kd s = s.fx := by unfold bS; rw [if_neg k1, if_pos k2]; rfl
      rw [eb] at hs ⊢
      rw [e1]
      refine (St.fx_cut P.ok hr hs).mono (fun q => ⟨?_, ?_, ?_⟩)
      · rw [norm2 hm k2]; unfold bP rP2; rw [if_neg k1, if_pos k2, q]
      · unfold bL; rw [if_neg (by omega), h.l0 (by omega)]
      · unfold bD; rw [if_neg (by omega), h.d0 (by omega)]
    · by_cases k3 : P.kd = 3
      · have eb : bodyB P l d = be7 [P.ix, P.lt, P.co, P.hi] ++ (Wr.be 1 l.length ++ l.flatMap entBy) := by unfold bodyB; rw [if_neg k1, if_neg k2, if_pos k3]
        have e1 : bS P.kd s = rS3 s := by unfold bS; rw [if_neg k1, if_neg k2, if_pos k3]
        have hE := h.edr
        have h8 := hm.most
        rw [eb] at hs ⊢
        rw [e1]
        have hb2 : Byt (Wr.be 1 (l.length : Int) ++ l.flatMap entBy) := Byt.append (Wr.be_byt 1 _) (ents_byt hE)
        have c1 := nx4_cut hix hlt hco hhi (Byt.append hb2 hr) (s := s) (k := k) (by rw [hs]; simp)
        have c2 : Cut s (rS3 s) (be7 [P.ix, P.lt, P.co, P.hi] ++ (Wr.be 1 (l.length : Int) ++ l.flatMap entBy)) r k _ := Cut.trans c1 (R := rN3 s = l.length ∧ rE3 s = l) (fun hne => by
            have hmx : (rS3a s).mx = rS3a s := by unfold St.mx; rw [St.nx_bad (by exact hne), St.fail_bad (by exact hne)]
            unfold rS3
            rw [hmx, readS_bad _ (by exact hne)]
            rfl) (fun q he => by
            have c3 := mx_cut (s := rS3a s) (n := l.length) (by omega) (by omega) (Byt.append (ents_byt hE) hr) (k := k - (be7 [P.ix, P.lt, P.co, P.hi]).length) (by rw [show rS3a s = (((s.nx 7).nx 7).nx 7).nx 7 from rfl, he]; simp)
            have hN : (rS3a s).num 1 = l.length → (rS3a s).mx.e = 0 → rN3 s = l.length := by intro a b; unfold rN3; rw [if_pos b, a]; simp
            have c4 := Cut.trans c3 (s2 := rS3 s) (R := rN3 s = l.length ∧ rE3 s = l) (fun hne => by unfold rS3; rw [readS_bad _ hne]) (fun q2 he2 => by
              have hn := hN q2 (by rw [he2])
              have c5 := read_cut l (s := (rS3a s).mx) (P.ix + 1) hE (fun i hi => (ents_facts P.te hm.te.2 l (P.ix + 1) P.lt hm.lt.1 hm.ents i hi).1) hr he2
              unfold rS3
              rw [hn]
              refine c5.mono (fun q3 => ⟨rfl, ?_⟩)
              unfold rE3
              rw [hn, q.1, q3])
            exact c4.mono (fun x => x.2))
        refine c2.mono (fun q => ⟨?_, ?_, ?_⟩)
        · rw [norm3 hm k3]; unfold bP rP3a; rw [if_neg k1, if_neg k2, if_pos k3, q.2.1, q.1.1, q.1.2.1, q.1.2.2.1, q.1.2.2.2, h.en]
        · unfold bL; rw [if_pos k3, q.2.2]
        · unfold bD; rw [if_neg (by omega), h.d0 (by omega)]
      · by_cases k4 : P.kd = 4
        · have eb : bodyB P l d = okB P.ok ++ be7 [P.ix, P.hi] := by unfold bodyB; rw [if_neg k1, if_neg k2, if_neg k3, if_pos k4]
          have e1 : bS P.kd s = (s.fx.nx 7).nx 7 := by unfold bS; rw [if_neg k1, if_neg k2, if_neg k3, if_pos k4]; rfl
          rw [eb] at hs ⊢
          rw [e1]
          have c1 := St.fx_cut P.ok (Byt.append (be7_byt [P.ix, P.hi]) hr) (s := s) (k := k) (by rw [hs]; simp [okB])
          have c2 : Cut s ((s.fx.nx 7).nx 7) (okB P.ok ++ be7 [P.ix, P.hi]) r k _ := Cut.trans c1 (fun hne => by rw [St.nx_bad hne, St.nx_bad hne]) (fun _ he => nx2_cut hix hhi hr he)
          refine c2.mono (fun q => ⟨?_, ?_, ?_⟩)
          · rw [norm4 hm k4]; unfold bP rP4; rw [if_neg k1, if_neg k2, if_neg k3, if_pos k4, q.1, q.2.1, q.2.2]
          · unfold bL; rw [if_neg (by omega), h.l0 (by omega)]
          · unfold bD; rw [if_neg (by omega), h.d0 (by omega)]
        · by_cases k5 : P.kd = 5
          · have hs5 := hm.snap0
            have hsi := r7_of (v := P.si) (by omega)
            have hst := r7_of (v := P.st) (by omega)
            have hsn := h.sn
            have eb : bodyB P l d = be7 [P.hi, P.si, P.st] ++ (Wr.be 1 P.sc ++ olay d) := by unfold bodyB; rw [if_neg k1, if_neg k2, if_neg k3, if_neg k4, if_pos k5]
            have e1 : bS P.kd s = ((((s.nx 7).nx 7).nx 7).nx 1).ox := by unfold bS; rw [if_neg k1, if_neg k2, if_neg k3, if_neg k4, if_pos k5]; rfl
            rw [eb] at hs ⊢
            rw [e1]
            have c1 := nx3_cut hhi hsi hst (Byt.append (Byt.append (Wr.be_byt 1 P.sc) (olay_byt h.byd)) hr) (s := s) (k := k) (by rw [hs]; simp)
            have c2 := Cut.trans c1 (s2 := ((((s.nx 7).nx 7).nx 7).nx 1).ox) (fun hne => by rw [St.nx_bad hne, St.ox_bad hne]) (fun _ he => by
              have c3 := St.nx_cut (s := ((s.nx 7).nx 7).nx 7) (n := 1) (.inl rfl) (v := P.sc) (by omega) (by rw [p1v]; omega) (Byt.append (olay_byt h.byd) hr) (k := k - (be7 [P.hi, P.si, P.st]).length) (by rw [he]; simp)
              exact Cut.trans c3 (fun hne => by rw [St.ox_bad hne]) (fun _ he2 => St.ox_cut (by omega) h.byd hr he2))
            refine c2.mono (fun q => ⟨?_, ?_, ?_⟩)
            · rw [norm5 hm k5]; unfold bP rP5; rw [if_neg k1, if_neg k2, if_neg k3, if_neg k4, if_pos k5, q.1.1, q.1.2.1, q.1.2.2, q.2.1, q.2.2, hsn]
            · unfold bL; rw [if_neg (by omega), h.l0 (by omega)]
            · unfold bD; rw [if_pos k5]; exact q.2.2
          · have k6 : P.kd = 6 := by omega
            have eb : bodyB P l d = be7 [P.ix, P.hi] := by unfold bodyB; rw [if_neg k1, if_neg k2, if_neg k3, if_neg k4, if_neg k5]
            have e1 : bS P.kd s = (s.nx 7).nx 7 := by unfold bS; rw [if_neg k1, if_neg k2, if_neg k3, if_neg k4, if_neg k5, if_pos k6]; rfl
            rw [eb] at hs ⊢
            rw [e1]
            refine (nx2_cut hix hhi hr hs).mono (fun q => ⟨?_, ?_, ?_⟩)
            · rw [norm6 hm k6]; unfold bP rP6; rw [if_neg k1, if_neg k2, if_neg k3, if_neg k4, if_neg k5, if_pos k6, q.1, q.2]
            · unfold bL; rw [if_neg (by omega), h.l0 (by omega)]
            · unfold bD; rw [if_neg (by omega), h.d0 (by omega)]
theorem body_byt {P : Po} {l : List Ed} {d : List Int} (h : Full P l d) : Byt (bodyB P l d) := by
  unfold bodyB
  split
  · exact be7_byt _
  · split
    · exact okB_byt _
    · split
      · exact Byt.append (be7_byt _) (Byt.append (Wr.be_byt 1 _) (ents_byt h.edr))
      · split
        · exact Byt.append (okB_byt _) (be7_byt _)
        · split
          · exact Byt.append (be7_byt _) (Byt.append (Wr.be_byt 1 _) (olay_byt h.byd))
          · exact be7_byt _
theorem pack_byt {P : Po} {l : List Ed} {d : List Int} (h : Full P l d) : Byt (packB P l d) :=
  Byt.append (Wr.be_byt 1 P.kd) (Byt.append (Wr.be_byt 1 P.fr) (Byt.append (Wr.be_byt 1 P.to) (Byt.append (Wr.be_byt 7 P.te) (body_byt h))))
/-- The bytes of a message, cut behind k, with more behind them. -/
theorem unpack_cut {P : Po} {l : List Ed} {d : List Int} (h : Full P l d) (hc : chkB P l = true) {r : List Int} (hr : Byt r) (k : Nat) {ys : List Int} (hy : ys = (packB P l d ++ r).take k) :
    (k < (packB P l d).length ∧ (uZ ys).e = 3) ∨ ((packB P l d).length ≤ k ∧ (r.take (k - (packB P l d).length) ≠ [] → (uZ ys).e = 4) ∧ (r.take (k - (packB P l d).length) = [] → (uZ ys).e = 0 ∧ uP0 ys = P.norm ∧ uL0 ys = l ∧ uD0 ys = d)) := by
  have hm := h.may
  have hkd := hm.kd
  have hfr := hm.fr
  have htq := hm.tq
  have hte := r7_of hm.te
  have hbb := body_byt h
  have b4 := Byt.append hbb hr
  have b3 := Byt.append (Wr.be_byt 7 P.te) b4
  have b2 := Byt.append (Wr.be_byt 1 P.to) b3
  have b1 := Byt.append (Wr.be_byt 1 P.fr) b2
  have c1 := St.nx_cut (s := ⟨ys, 0⟩) (n := 1) (.inl rfl) (v := P.kd) (by omega) (by rw [p1v]; omega) b1 (k := k) (by rw [hy]; simp [packB])
  have cA : Cut ⟨ys, 0⟩ (uA ys) (Wr.be 1 P.kd) (Wr.be 1 P.fr ++ (Wr.be 1 P.to ++ (Wr.be 7 P.te ++ (bodyB P l d ++ r)))) k (uKd ys = P.kd) := by
    rcases c1 with ⟨g, he⟩ | ⟨g, he, hq⟩
    · exact .inl ⟨g, by unfold uA; rw [St.fail_bad (by rw [he]; decide)]; exact he⟩
    · refine .inr ⟨g, ?_, hq⟩
      have : wiB (uKd ys) 1 6 = true := by rw [show uKd ys = P.kd from hq]; exact wiB_iff.2 hkd
      unfold uA
      rw [this]
      exact he
  have cH := Cut.trans (b := Wr.be 1 P.fr ++ (Wr.be 1 P.to ++ (Wr.be 7 P.te ++ bodyB P l d))) (r := r) (s2 := uB ys) (by simpa using cA) (fun hne => by
      have e : uH ys = uA ys := by unfold uH; rw [St.nx_bad hne, St.nx_bad hne, St.nx_bad hne]
      unfold uB
      rw [e, bS_bad hne]) (R := uP0 ys = P.norm ∧ uL0 ys = l ∧ uD0 ys = d) (fun qk he => by
    have d1 := St.nx_cut (s := uA ys) (n := 1) (.inl rfl) (v := P.fr) (by omega) (by rw [p1v]; omega) b2 (k := k - (Wr.be 1 P.kd).length) (by rw [he]; simp)
    refine (Cut.trans (b := Wr.be 1 P.to ++ (Wr.be 7 P.te ++ bodyB P l d)) (r := r) (s2 := uB ys) (by simpa using d1) (fun hne => by
      have e : uH ys = (uA ys).nx 1 := by unfold uH; rw [St.nx_bad hne, St.nx_bad hne]
      unfold uB
      rw [e, bS_bad hne]) (R := (uA ys).num 1 = P.fr → uP0 ys = P.norm ∧ uL0 ys = l ∧ uD0 ys = d) (fun q1 he1 => ?_)).mono (fun q => q.2 q.1)
    have d2 := St.nx_cut (s := (uA ys).nx 1) (n := 1) (.inl rfl) (v := P.to) (by omega) (by rw [p1v]; omega) b3 (k := k - (Wr.be 1 P.kd).length - (Wr.be 1 P.fr).length) (by rw [he1]; simp)
    refine (Cut.trans (b := Wr.be 7 P.te ++ bodyB P l d) (r := r) (s2 := uB ys) (by simpa using d2) (fun hne => by
      have e : uH ys = ((uA ys).nx 1).nx 1 := by unfold uH; rw [St.nx_bad hne]
      unfold uB
      rw [e, bS_bad hne]) (R := ((uA ys).nx 1).num 1 = P.to → (uA ys).num 1 = P.fr → uP0 ys = P.norm ∧ uL0 ys = l ∧ uD0 ys = d) (fun q2 he2 => ?_)).mono (fun q => q.2 q.1)
    have d3 := St.nx_cut (s := ((uA ys).nx 1).nx 1) (n := 7) (.inr (.inr rfl)) (v := P.te) hte.1 hte.2 b4 (k := k - (Wr.be 1 P.kd).length - (Wr.be 1 P.fr).length - (Wr.be 1 P.to).length) (by rw [he2]; simp)
    refine (Cut.trans (b := bodyB P l d) (r := r) (s2 := uB ys) d3 (fun hne => by
      unfold uB
      rw [show uH ys = (((uA ys).nx 1).nx 1).nx 7 from rfl, bS_bad hne]) (R := (((uA ys).nx 1).nx 1).num 7 = P.te → ((uA ys).nx 1).num 1 = P.to → (uA ys).num 1 = P.fr → uP0 ys = P.norm ∧ uL0 ys = l ∧ uD0 ys = d) (fun q3 he3 => ?_)).mono (fun q => q.2 q.1)
    have d4 := body_cut h hr (s := uH ys) (k := k - (Wr.be 1 P.kd).length - (Wr.be 1 P.fr).length - (Wr.be 1 P.to).length - (Wr.be 7 P.te).length) (by rw [← he3]; rfl)
    unfold uB
    rw [qk]
    refine d4.mono (fun q f3 f2 f1 => ?_)
    unfold uP0 uL0 uD0
    rw [qk, f1, f2, f3]
    exact q)
  have el : (Wr.be 1 P.kd ++ (Wr.be 1 P.fr ++ (Wr.be 1 P.to ++ (Wr.be 7 P.te ++ bodyB P l d)))) = packB P l d := rfl
  rw [el] at cH
  rcases cH with ⟨g, he⟩ | ⟨g, he, _, hq⟩
  · exact .inl ⟨g, by unfold uZ; rw [St.fail_bad (by rw [he]; decide)]; exact he⟩
  · refine .inr ⟨g, fun hn => ?_, fun hn => ?_⟩
    · unfold uZ
      have : decide (0 < ((uB ys).l.length : Int)) = true := by
        rw [he]
        have := List.length_pos_iff.2 hn
        exact decide_eq_true (by show (0 : Int) < ((r.take (k - (packB P l d).length)).length : Int); omega)
      rw [this, Bool.true_or]
      unfold St.fail
      rw [if_pos rfl, he, if_pos rfl]
    · refine ⟨?_, hq⟩
      unfold uZ
      have h1 : decide (0 < ((uB ys).l.length : Int)) = false := by rw [he, hn]; rfl
      have h2 : chkE (uP0 ys) (uL0 ys) = 0 := by rw [hq.1, hq.2.1, chk_norm]; unfold chkE; rw [if_pos hc]
      rw [h1, h2]
      show (uB ys).e = 0
      rw [he]
end Go.Proofs.Ytnphnaggamfoiaa
