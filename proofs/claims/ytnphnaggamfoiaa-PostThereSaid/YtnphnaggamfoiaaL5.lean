/- Bytes that are a message are those that it is packed into (plain words, no walk). -/
import Derived.Test.YtnphnaggamfoiaaL4
namespace Go.Proofs.Ytnphnaggamfoiaa
open Go.RowKit
set_option maxRecDepth 20000
set_option linter.unusedVariables false
set_option linter.unusedSimpArgs false

theorem nx2_inv {s : St} (hb : s.Ok) (h : ((s.nx 7).nx 7).e = 0) : s.e = 0 ∧ s.l = be7 [s.num 7, (s.nx 7).num 7] ++ ((s.nx 7).nx 7).l := by
  have h1 := St.nx_ok h
  obtain ⟨a, _⟩ := St.nx_inv (n := 7) (.inr (.inr rfl)) hb h1
  obtain ⟨b, _⟩ := St.nx_inv (n := 7) (.inr (.inr rfl)) (hb.nx 7) h
  refine ⟨St.nx_ok h1, ?_⟩
  rw [show be7 [s.num 7, (s.nx 7).num 7] = Wr.be 7 (s.num 7) ++ Wr.be 7 ((s.nx 7).num 7) by simp [be7], List.append_assoc, ← b]
  exact a
theorem nx3_inv {s : St} (hb : s.Ok) (h : (((s.nx 7).nx 7).nx 7).e = 0) : s.e = 0 ∧ s.l = be7 [s.num 7, (s.nx 7).num 7, ((s.nx 7).nx 7).num 7] ++ (((s.nx 7).nx 7).nx 7).l := by
  obtain ⟨h1, b⟩ := nx2_inv (hb.nx 7) h
  obtain ⟨a, _⟩ := St.nx_inv (n := 7) (.inr (.inr rfl)) hb h1
  refine ⟨St.nx_ok h1, ?_⟩
  rw [show be7 [s.num 7, (s.nx 7).num 7, ((s.nx 7).nx 7).num 7] = Wr.be 7 (s.num 7) ++ be7 [(s.nx 7).num 7, ((s.nx 7).nx 7).num 7] by simp [be7], List.append_assoc, ← b]
  exact a
theorem nx4_inv {s : St} (hb : s.Ok) (h : ((((s.nx 7).nx 7).nx 7).nx 7).e = 0) : s.e = 0 ∧ s.l = be7 [s.num 7, (s.nx 7).num 7, ((s.nx 7).nx 7).num 7, (((s.nx 7).nx 7).nx 7).num 7] ++ ((((s.nx 7).nx 7).nx 7).nx 7).l := by
  obtain ⟨h1, b⟩ := nx3_inv (hb.nx 7) h
  obtain ⟨a, _⟩ := St.nx_inv (n := 7) (.inr (.inr rfl)) hb h1
  refine ⟨St.nx_ok h1, ?_⟩
  rw [show be7 [s.num 7, (s.nx 7).num 7, ((s.nx 7).nx 7).num 7, (((s.nx 7).nx 7).nx 7).num 7] = Wr.be 7 (s.num 7) ++ be7 [(s.nx 7).num 7, ((s.nx 7).nx 7).num 7, (((s.nx 7).nx 7).nx 7).num 7] by simp [be7], List.append_assoc, ← b]
  exact a
theorem entS_ok {s : St} (h : s.Ok) : (entS s).Ok := ((h.nx 7).nx 1).ox
theorem ent_inv {s : St} (b : Int) (hb : s.Ok) (h : (entS s).e = 0) : s.e = 0 ∧ s.l = entBy (entE s b) ++ (entS s).l := by
  obtain ⟨h2, c⟩ := St.ox_inv ((hb.nx 7).nx 1) h
  have h1 := St.nx_ok h2
  obtain ⟨a, _⟩ := St.nx_inv (n := 7) (.inr (.inr rfl)) hb h1
  obtain ⟨d, _⟩ := St.nx_inv (n := 1) (.inl rfl) (hb.nx 7) h2
  refine ⟨St.nx_ok h1, ?_⟩
  unfold entBy entE
  simp only [List.append_assoc]
  rw [show (entS s).l = ((s.nx 7).nx 1).ox.l from rfl, ← c, ← d]
  exact a
theorem read_inv : ∀ (n : Nat) {s : St} (b : Int), s.Ok → (readS s n).e = 0 → s.e = 0 ∧ s.l = (readE s b n).flatMap entBy ++ (readS s n).l ∧ (readE s b n).length = n
  | 0, s, b, hb, h => ⟨h, rfl, rfl⟩
  | n + 1, s, b, hb, h => by
    obtain ⟨h1, h2, h3⟩ := read_inv n (b + 1) (entS_ok hb) h
    obtain ⟨g1, g2⟩ := ent_inv b hb h1
    refine ⟨g1, ?_, ?_⟩
    · show s.l = (entE s b :: readE (entS s) (b + 1) n).flatMap entBy ++ (readS (entS s) n).l
      rw [List.flatMap_cons, List.append_assoc, ← h2]
      exact g2
    · show (entE s b :: readE (entS s) (b + 1) n).length = n + 1
      rw [List.length_cons, h3]
theorem mx_inv {s : St} (hb : s.Ok) (h : s.mx.e = 0) : s.e = 0 ∧ s.l = Wr.be 1 (s.num 1) ++ s.mx.l ∧ 0 ≤ s.num 1 := by
  obtain ⟨h1, h2, h3⟩ := St.fail_ok (by decide) h
  obtain ⟨a, b, c⟩ := St.nx_inv (n := 1) (.inl rfl) hb h1
  exact ⟨St.nx_ok h1, by rw [show s.mx = s.nx 1 from h3]; exact a, b⟩
theorem mx_bad {s : St} (h : s.e ≠ 0) : s.mx = s := by unfold St.mx; rw [St.nx_bad h, St.fail_bad h]
theorem mx_Ok {s : St} (h : s.Ok) : s.mx.Ok := (h.nx 1).fail _ _
theorem body_inv {kd fr tq te : Int} (hk : 1 ≤ kd ∧ kd ≤ 6) {s : St} (hb : s.Ok) (h : (bS kd s).e = 0) :
    s.e = 0 ∧ s.l = bodyB (bP kd fr tq te s) (bL kd s) (bD kd s) ++ (bS kd s).l ∧ (bL kd s).length = (bP kd fr tq te s).en ∧ (bD kd s).length = (bP kd fr tq te s).sn := by
  by_cases k1 : kd = 1
  · subst k1
    obtain ⟨a, b⟩ := nx2_inv hb h
    exact ⟨a, b, rfl, rfl⟩
  · by_cases k2 : kd = 2
    · subst k2
      obtain ⟨a, b⟩ := St.fx_inv hb h
      exact ⟨a, b, rfl, rfl⟩
    · by_cases k3 : kd = 3
      · subst k3
        have h' : (rS3 s).e = 0 := h
        have ok4 : (rS3a s).Ok := (((hb.nx 7).nx 7).nx 7).nx 7
        obtain ⟨a1, a2, a3⟩ := read_inv (rN3 s) (s.num 7 + 1) (mx_Ok ok4) h'
        obtain ⟨b1, b2, b3⟩ := mx_inv ok4 a1
        obtain ⟨c1, c2⟩ := nx4_inv hb b1
        have hn : ((rN3 s : Nat) : Int) = (rS3a s).num 1 := by unfold rN3; rw [if_pos a1]; omega
        refine ⟨c1, ?_, a3, rfl⟩
        have e1 : bodyB (bP 3 fr tq te s) (bL 3 s) (bD 3 s) = be7 [s.num 7, (s.nx 7).num 7, ((s.nx 7).nx 7).num 7, (((s.nx 7).nx 7).nx 7).num 7] ++ (Wr.be 1 (rE3 s).length ++ (rE3 s).flatMap entBy) := rfl
        have e2 : (rE3 s).length = rN3 s := a3
        rw [e1, e2, hn]
        have e3 : (bS 3 s).l = (rS3 s).l := rfl
        rw [e3]
        simp only [List.append_assoc]
        rw [show (rE3 s).flatMap entBy ++ (rS3 s).l = (rS3a s).mx.l from a2.symm, ← b2]
        exact c2
      · by_cases k4 : kd = 4
        · subst k4
          obtain ⟨a1, a2⟩ := nx2_inv hb.fx h
          obtain ⟨b1, b2⟩ := St.fx_inv hb a1
          refine ⟨b1, ?_, rfl, rfl⟩
          have e1 : bodyB (bP 4 fr tq te s) (bL 4 s) (bD 4 s) = okB s.flag ++ be7 [s.fx.num 7, (s.fx.nx 7).num 7] := rfl
          have e3 : (bS 4 s).l = ((s.fx.nx 7).nx 7).l := rfl
          rw [e1, e3, List.append_assoc, ← a2]
          exact b2
        · by_cases k5 : kd = 5
          · subst k5
            have ok3 : (((s.nx 7).nx 7).nx 7).Ok := ((hb.nx 7).nx 7).nx 7
            obtain ⟨a1, a2⟩ := St.ox_inv (ok3.nx 1) h
            obtain ⟨b1, _⟩ := St.nx_inv (n := 1) (.inl rfl) ok3 a1
            obtain ⟨c1, c2⟩ := nx3_inv hb (St.nx_ok a1)
            refine ⟨c1, ?_, rfl, rfl⟩
            have e1 : bodyB (bP 5 fr tq te s) (bL 5 s) (bD 5 s) = be7 [s.num 7, (s.nx 7).num 7, ((s.nx 7).nx 7).num 7] ++ (Wr.be 1 ((((s.nx 7).nx 7).nx 7).num 1) ++ olay ((((s.nx 7).nx 7).nx 7).nx 1).oct) := rfl
            have e3 : (bS 5 s).l = ((((s.nx 7).nx 7).nx 7).nx 1).ox.l := rfl
            rw [e1, e3]
            simp only [List.append_assoc]
            rw [← a2, ← b1]
            exact c2
          · have k6 : kd = 6 := by omega
            subst k6
            obtain ⟨a, b⟩ := nx2_inv hb h
            exact ⟨a, b, rfl, rfl⟩
/-- Bytes that are a message. -/
theorem unpack_inv {ys : List Int} (hy : Byt ys) (h : (uZ ys).e = 0) : chkB (uP0 ys) (uL0 ys) = true ∧ (uL0 ys).length = (uP0 ys).en ∧ (uD0 ys).length = (uP0 ys).sn ∧ ys = packB (uP0 ys) (uL0 ys) (uD0 ys) := by
  have hok : St.Ok ⟨ys, 0⟩ := hy
  obtain ⟨h1, h2, h3⟩ := St.fail_ok (by decide) h
  simp only [Bool.or_eq_false_iff, decide_eq_false_iff_not, Bool.not_eq_false', beq_iff_eq] at h2
  have okA : (uA ys).Ok := (hok.nx 1).fail _ _
  have okH : (uH ys).Ok := ((okA.nx 1).nx 1).nx 7
  have hkA : (uA ys).e = 0 → wiB (uKd ys) 1 6 = true ∧ uA ys = (⟨ys, 0⟩ : St).nx 1 := by
    intro h
    obtain ⟨a, b, c⟩ := St.fail_ok (by decide) h
    exact ⟨by simpa using b, c⟩
  have hH : (uH ys).e = 0 := by
    by_cases hh : (uH ys).e = 0
    · exact hh
    · rw [show uB ys = bS (uKd ys) (uH ys) from rfl, bS_bad hh] at h1; exact absurd h1 hh
  have i2 := St.nx_ok (s := ((uA ys).nx 1).nx 1) (n := 7) hH
  have i1 := St.nx_ok i2
  have i0 := St.nx_ok i1
  obtain ⟨hkd, eA⟩ := hkA i0
  obtain ⟨b1, b2, b3, b4⟩ := body_inv (fr := (uA ys).num 1) (tq := ((uA ys).nx 1).num 1) (te := (((uA ys).nx 1).nx 1).num 7) (wiB_iff.1 hkd) okH h1
  obtain ⟨c3, _⟩ := St.nx_inv (n := 7) (.inr (.inr rfl)) ((okA.nx 1).nx 1) hH
  obtain ⟨c2, _⟩ := St.nx_inv (n := 1) (.inl rfl) (okA.nx 1) i2
  obtain ⟨c1, _⟩ := St.nx_inv (n := 1) (.inl rfl) okA i1
  obtain ⟨c0, _⟩ := St.nx_inv (s := ⟨ys, 0⟩) (n := 1) (.inl rfl) hok (by rw [← eA]; exact i0)
  refine ⟨?_, b3, b4, ?_⟩
  · have := h2.2
    unfold chkE at this
    split at this
    · assumption
    · omega
  · have hl : (bS (uKd ys) (uH ys)).l = [] := by
      have := h2.1
      rw [show uB ys = bS (uKd ys) (uH ys) from rfl] at this
      exact List.eq_nil_of_length_eq_zero (by omega)
    rw [hl, List.append_nil] at b2
    have hk1 : 1 ≤ uKd ys ∧ uKd ys ≤ 6 := wiB_iff.1 hkd
    have f : (uP0 ys).kd = uKd ys ∧ (uP0 ys).fr = (uA ys).num 1 ∧ (uP0 ys).to = ((uA ys).nx 1).num 1 ∧ (uP0 ys).te = (((uA ys).nx 1).nx 1).num 7 := by
      unfold uP0 bP
      by_cases k1 : uKd ys = 1
      · rw [if_pos k1]; exact ⟨k1.symm, rfl, rfl, rfl⟩
      · rw [if_neg k1]
        by_cases k2 : uKd ys = 2
        · rw [if_pos k2]; exact ⟨k2.symm, rfl, rfl, rfl⟩
        · rw [if_neg k2]
          by_cases k3 : uKd ys = 3
          · rw [if_pos k3]; exact ⟨k3.symm, rfl, rfl, rfl⟩
          · rw [if_neg k3]
            by_cases k4 : uKd ys = 4
            · rw [if_pos k4]; exact ⟨k4.symm, rfl, rfl, rfl⟩
            · rw [if_neg k4]
              by_cases k5 : uKd ys = 5
              · rw [if_pos k5]; exact ⟨k5.symm, rfl, rfl, rfl⟩
              · rw [if_neg k5, if_pos (by omega)]; exact ⟨by show (6 : Int) = _; omega, rfl, rfl, rfl⟩
    unfold packB
    rw [f.1, f.2.1, f.2.2.1, f.2.2.2]
    have e0 : ys = Wr.be 1 (uKd ys) ++ ((⟨ys, 0⟩ : St).nx 1).l := c0
    have eb : bodyB (uP0 ys) (uL0 ys) (uD0 ys) = (uH ys).l := b2.symm
    rw [eb, show (uH ys).l = ((((uA ys).nx 1).nx 1).nx 7).l from rfl, ← c3, ← c2, ← c1, eA]
    exact e0
theorem pack_norm (P : Po) (l : List Ed) (d : List Int) : packB P.norm l d = packB P l d := rfl
theorem may_norm {P : Po} {l : List Ed} : chkB P.norm l = chkB P l := by
  have := chk_norm P l
  unfold chkE at this
  cases h1 : chkB P.norm l <;> cases h2 : chkB P l <;> simp [h1, h2] at this ⊢
end Go.Proofs.Ytnphnaggamfoiaa
