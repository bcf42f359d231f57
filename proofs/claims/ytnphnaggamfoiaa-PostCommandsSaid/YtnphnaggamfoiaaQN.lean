/- M1, M2, V1, N3, N4 in one text. -/
import Derived.Test.YtnphnaggamfoiaaQC
import Derived.Test.YtnphnaggamfoiaaQL
import Derived.ProofKit
import Derived.OpenShut
import Derived.OwnWalk
import Derived.Test.YtnphnaggamfoiaaN2
namespace Go.Proofs.Ytnphnaggamfoiaa
open Go.RowKit
set_option maxRecDepth 20000
set_option linter.unusedVariables false
set_option linter.unusedSimpArgs false
section
theorem ba_ext {a b : ByteArray} (h : a.toList = b.toList) : a = b := by
  rw [ByteArray.toList_eq, ByteArray.toList_eq] at h
  obtain ⟨⟨x⟩⟩ := a
  obtain ⟨⟨y⟩⟩ := b
  simpa using h
theorem oxB_eq {x y : Ox} (h : oxB x y = true) : x = y := by
  simp only [oxB, Bool.and_eq_true, beq_iff_eq] at h
  obtain ⟨h1, h2, h3, h4, h5, h6⟩ := h
  obtain ⟨a1, a2, a3, a4, a5, a6⟩ := x
  obtain ⟨b1, b2, b3, b4, b5, b6⟩ := y
  simp only at h1 h2 h3 h4 h5 h6
  have := ba_ext h5
  subst h1 h2 h3 h4 h6 this
  rfl
theorem oxB_refl (x : Ox) : oxB x x = true := by simp [oxB]
def opB (o : Ox) : List Int :=
  if o.kd = 1 ∨ o.kd = 2 then Wr.be 1 o.nd ++ (o.ks ++ Wr.be 7 o.ex) else if o.kd = 3 then Wr.be 1 o.nd else if o.kd = 4 then olay (tb o.tx) else Wr.be 7 o.ti
def cpackB (c : Co) : List Int := Wr.be 1 c.s ++ (Wr.be 7 c.q ++ (Wr.be 1 c.o.kd ++ opB c.o))
theorem cpackP_app {c : Co} (h : CMay c) : cpackP c = cpackB c := by
  have hs := h.s; have hq := h.q; have hkd := h.kd; have hnd := h.nd; have hex := h.ex; have hti := h.ti; have htx := h.tx
  have e1 : ∀ (v : Int) (xs : List Int), 0 ≤ v → v < 256 → Wr.putL xs v 1 = xs ++ Wr.be 1 v := fun v xs h0 h1 => putL_app (n := 1) (.inl rfl) h0 (by rw [p1v]; exact h1) xs
  have e7 : ∀ (v : Int) (xs : List Int), 0 ≤ v → v ≤ 9007199254740991 → Wr.putL xs v 7 = xs ++ Wr.be 7 v := fun v xs h0 h1 => putL_app (n := 7) (.inr (.inr rfl)) h0 (by rw [p7v]; omega) xs
  have eh : cheadL c = Wr.be 1 c.s ++ (Wr.be 7 c.q ++ Wr.be 1 c.o.kd) := by
    unfold cheadL
    rw [e1 _ _ (by omega) (by omega), e7 _ _ (by omega) (by omega), e1 _ _ (by omega) (by omega)]
    simp
  unfold cpackP cpackB opP opB
  rw [eh]
  by_cases k12 : c.o.kd = 1 ∨ c.o.kd = 2
  · rw [if_pos k12, if_pos k12, e1 _ _ (by omega) (by omega), e7 _ _ (by omega) (by omega)]; simp
  · rw [if_neg k12, if_neg k12]
    by_cases k3 : c.o.kd = 3
    · rw [if_pos k3, if_pos k3, e1 _ _ (by omega) (by omega)]; simp
    · rw [if_neg k3, if_neg k3]
      by_cases k4 : c.o.kd = 4
      · rw [if_pos k4, if_pos k4, octL_app (by rw [tb_len]; omega)]; simp
      · rw [if_neg k4, if_neg k4, e7 _ _ (by omega) (by omega)]; simp
theorem opB_byt {c : Co} (hb : Byt c.o.ks) : Byt (opB c.o) := by
  unfold opB
  split
  · exact Byt.append (Wr.be_byt 1 _) (Byt.append hb (Wr.be_byt 7 _))
  · split
    · exact Wr.be_byt 1 _
    · split
      · exact olay_byt (tb_byt _)
      · exact Wr.be_byt 7 _
theorem cpack_byt {c : Co} (hb : Byt c.o.ks) : Byt (cpackB c) := Byt.append (Wr.be_byt 1 _) (Byt.append (Wr.be_byt 7 _) (Byt.append (Wr.be_byt 1 _) (opB_byt hb)))
theorem St.sk_cut {s : St} {a r : List Int} {k : Nat} (hs : s = ⟨(a ++ r).take k, 0⟩) : Cut s (s.sk a.length) a r k (s.some a.length = a) := by
  unfold Cut St.sk St.some
  subst hs
  rw [if_pos rfl, if_pos rfl]
  simp only
  by_cases hj : k < a.length
  · refine .inl ⟨hj, ?_⟩
    unfold Wr.bytE
    rw [if_neg (by omega), if_pos (by simp; omega)]
  · have hE : Wr.bytE ((a ++ r).take k) (a.length : Int) = 0 := by
      unfold Wr.bytE
      rw [if_neg (by omega), if_neg (by simp; omega)]
    refine .inr ⟨by omega, ?_, ?_⟩
    · unfold Wr.bytL
      rw [hE, if_pos rfl, Int.toNat_natCast, List.drop_take, List.drop_left' rfl]
    · unfold Wr.bytV
      rw [if_pos hE, Int.toNat_natCast, List.take_take, Nat.min_eq_left (by omega), List.take_left' rfl]
theorem ropS_bad {s : St} (h : s.e ≠ 0) (kd : Int) : (ropS kd s).e = s.e := by
  unfold ropS
  split
  · rw [St.nx_bad h, St.sk_bad h, St.nx_bad h]
  · split
    · rw [St.nx_bad h]
    · split
      · rw [St.ox_bad h]
      · split
        · rw [St.nx_bad h]
        · rfl
theorem op_cut {o : Ox} (hk : 1 ≤ o.kd ∧ o.kd ≤ 5) (hown : o = o.own) (h32 : o.ks.length = 32) (hb : Byt o.ks) (hnd : 0 ≤ o.nd ∧ o.nd ≤ 255) (hex : 0 ≤ o.ex ∧ o.ex ≤ 9007199254740991) (hti : 0 ≤ o.ti ∧ o.ti ≤ 9007199254740991) (htx : o.tx.size ≤ 1024)
    {s : St} {r : List Int} (hr : Byt r) {k : Nat} (hs : s = ⟨(opB o ++ r).take k, 0⟩) : Cut s (ropS o.kd s) (opB o) r k (rop o.kd s = o) := by
  have q1 : o.nd < Wr.p256 1 := by rw [p1v]; omega
  have q7 : o.ex < Wr.p256 7 := by rw [p7v]; omega
  have q8 : o.ti < Wr.p256 7 := by rw [p7v]; omega
  by_cases k12 : o.kd = 1 ∨ o.kd = 2
  · have eb : opB o = Wr.be 1 o.nd ++ (o.ks ++ Wr.be 7 o.ex) := by unfold opB; rw [if_pos k12]
    have es : ropS o.kd s = ((s.nx 1).sk 32).nx 7 := by unfold ropS; rw [if_pos k12]
    have er : rop o.kd s = ⟨o.kd, s.num 1, keyZ ((s.nx 1).some 32), ((s.nx 1).sk 32).num 7, ByteArray.empty, 0⟩ := by unfold rop; rw [if_pos k12]
    have eo : o = ⟨o.kd, o.nd, o.ks, o.ex, ByteArray.empty, 0⟩ := by conv => lhs; rw [hown]; unfold Ox.own; rw [if_pos k12]
    rw [eb] at hs ⊢
    rw [es, er]
    have c1 := St.nx_cut (s := s) (n := 1) (.inl rfl) hnd.1 q1 (Byt.append (Byt.append hb (Wr.be_byt 7 o.ex)) hr) (k := k) (by rw [hs]; simp)
    have c2 := Cut.trans c1 (s2 := ((s.nx 1).sk 32).nx 7) (fun hne => by rw [St.sk_bad hne, St.nx_bad hne]) (R := (s.nx 1).some 32 = o.ks ∧ ((s.nx 1).sk 32).num 7 = o.ex) (fun _ he => by
      have c3 : Cut (s.nx 1) ((s.nx 1).sk 32) o.ks (Wr.be 7 o.ex ++ r) (k - (Wr.be 1 o.nd).length) ((s.nx 1).some 32 = o.ks) := by
        have := St.sk_cut (s := s.nx 1) (a := o.ks) (r := Wr.be 7 o.ex ++ r) (k := k - (Wr.be 1 o.nd).length) (by rw [he]; simp)
        rw [h32] at this
        exact this
      exact Cut.trans c3 (fun hne => by rw [St.nx_bad hne]) (fun _ he2 => St.nx_cut (n := 7) (.inr (.inr rfl)) hex.1 q7 hr (by rw [he2, h32])))
    refine c2.mono (fun q => ?_)
    rw [q.1, q.2.1, q.2.2]
    have : keyZ o.ks = o.ks := by unfold keyZ; rw [if_neg (by intro h0; rw [h0] at h32; simp at h32)]
    rw [this]
    exact eo.symm
  · by_cases k3 : o.kd = 3
    · have eb : opB o = Wr.be 1 o.nd := by unfold opB; rw [if_neg k12, if_pos k3]
      have es : ropS o.kd s = s.nx 1 := by unfold ropS; rw [if_neg k12, if_pos k3]
      have er : rop o.kd s = ⟨o.kd, s.num 1, z32, 0, ByteArray.empty, 0⟩ := by unfold rop; rw [if_neg k12, if_pos k3]
      have eo : o = ⟨o.kd, o.nd, z32, 0, ByteArray.empty, 0⟩ := by conv => lhs; rw [hown]; unfold Ox.own; rw [if_neg k12, if_pos k3]
      rw [eb] at hs ⊢
      rw [es, er]
      refine (St.nx_cut (n := 1) (.inl rfl) hnd.1 q1 hr hs).mono (fun q => ?_)
      rw [q]; exact eo.symm
    · by_cases k4 : o.kd = 4
      · have eb : opB o = olay (tb o.tx) := by unfold opB; rw [if_neg k12, if_neg k3, if_pos k4]
        have es : ropS o.kd s = s.ox := by unfold ropS; rw [if_neg k12, if_neg k3, if_pos k4]
        have er : rop o.kd s = ⟨o.kd, 0, z32, 0, bs s.oct, 0⟩ := by unfold rop; rw [if_neg k12, if_neg k3, if_pos k4]
        have eo : o = ⟨o.kd, 0, z32, 0, o.tx, 0⟩ := by conv => lhs; rw [hown]; unfold Ox.own; rw [if_neg k12, if_neg k3, if_pos k4]
        rw [eb] at hs ⊢
        rw [es, er]
        refine (St.ox_cut (by rw [tb_len]; omega) (tb_byt _) hr hs).mono (fun q => ?_)
        rw [q, bs_tb]; exact eo.symm
      · have k5 : o.kd = 5 := by omega
        have eb : opB o = Wr.be 7 o.ti := by unfold opB; rw [if_neg k12, if_neg k3, if_neg k4]
        have es : ropS o.kd s = s.nx 7 := by unfold ropS; rw [if_neg k12, if_neg k3, if_neg k4, if_pos k5]
        have er : rop o.kd s = ⟨o.kd, 0, z32, 0, ByteArray.empty, s.num 7⟩ := by unfold rop; rw [if_neg k12, if_neg k3, if_neg k4, if_pos k5]
        have eo : o = ⟨o.kd, 0, z32, 0, ByteArray.empty, o.ti⟩ := by conv => lhs; rw [hown]; unfold Ox.own; rw [if_neg k12, if_neg k3, if_neg k4, if_pos k5]
        rw [eb] at hs ⊢
        rw [es, er]
        refine (St.nx_cut (n := 7) (.inr (.inr rfl)) hti.1 q8 hr hs).mono (fun q => ?_)
        rw [q]; exact eo.symm
/-- A command's bytes, cut behind k, with more behind them. -/
theorem cmd_cut {c : Co} (hc : cmB c = true) (h32 : c.o.ks.length = 32) (hb : Byt c.o.ks) {r : List Int} (hr : Byt r) (k : Nat) {ys : List Int} (hy : ys = (cpackB c ++ r).take k) :
    (k < (cpackB c).length ∧ (vZ ys).e = 3) ∨ ((cpackB c).length ≤ k ∧ (r.take (k - (cpackB c).length) ≠ [] → (vZ ys).e = 4) ∧ (r.take (k - (cpackB c).length) = [] → (vZ ys).e = 0 ∧ vC ys = c)) := by
  have hm := cmay_of hc
  have hs := hm.s; have hq := hm.q; have hkd := hm.kd
  have hown := oxB_eq hm.own
  have b3 := Byt.append (opB_byt (c := c) hb) hr
  have b2 := Byt.append (Wr.be_byt 1 c.o.kd) b3
  have b1 := Byt.append (Wr.be_byt 7 c.q) b2
  have c1 := St.nx_cut (s := ⟨ys, 0⟩) (n := 1) (.inl rfl) (v := c.s) (by omega) (by rw [p1v]; omega) b1 (k := k) (by rw [hy]; simp [cpackB])
  have cB := Cut.trans (b := Wr.be 7 c.q ++ (Wr.be 1 c.o.kd ++ opB c.o)) (r := r) (s2 := vB ys) (by simpa using c1) (fun hne => by
      have hne' : (v1 ys).e ≠ 0 := hne
      have hn2 : v2 ys = v1 ys := by unfold v2; rw [St.nx_bad hne']
      have hA : vA ys = v1 ys := by unfold vA; rw [hn2, St.nx_bad hne', St.fail_bad hne']
      unfold vB
      rw [ropS_bad (by rw [hA]; exact hne'), hA]
      rfl) (R := (⟨ys, 0⟩ : St).num 1 = c.s → vC ys = c) (fun q1 he => by
    have d1 := St.nx_cut (s := v1 ys) (n := 7) (.inr (.inr rfl)) (v := c.q) (by omega) (by rw [p7v]; omega) b2 (k := k - (Wr.be 1 c.s).length) (by rw [show v1 ys = (⟨ys, 0⟩ : St).nx 1 from rfl, he]; simp)
    refine (Cut.trans (b := Wr.be 1 c.o.kd ++ opB c.o) (r := r) (s2 := vB ys) (by simpa [v1] using d1) (fun hne => by
      have hne' : (v2 ys).e ≠ 0 := hne
      have hA : vA ys = v2 ys := by unfold vA; rw [St.nx_bad hne', St.fail_bad hne']
      unfold vB
      rw [ropS_bad (by rw [hA]; exact hne'), hA]
      rfl) (R := (v1 ys).num 7 = c.q → (⟨ys, 0⟩ : St).num 1 = c.s → vC ys = c) (fun q2 he1 => ?_)).mono (fun q => q.2 q.1)
    have d2 := St.nx_cut (s := v2 ys) (n := 1) (.inl rfl) (v := c.o.kd) (by omega) (by rw [p1v]; omega) b3 (k := k - (Wr.be 1 c.s).length - (Wr.be 7 c.q).length) (by rw [show v2 ys = (v1 ys).nx 7 from rfl, show (v1 ys).nx 7 = _ from he1]; simp)
    have d3 : Cut (v2 ys) (vA ys) (Wr.be 1 c.o.kd) (opB c.o ++ r) (k - (Wr.be 1 c.s).length - (Wr.be 7 c.q).length) (vKd ys = c.o.kd) := by
      rcases d2 with ⟨g, he⟩ | ⟨g, he, hq⟩
      · exact .inl ⟨g, by unfold vA; rw [St.fail_bad (by rw [he]; decide)]; exact he⟩
      · refine .inr ⟨g, ?_, hq⟩
        have : wiB (vKd ys) 1 5 = true := by rw [show vKd ys = c.o.kd from hq]; exact wiB_iff.2 hkd
        unfold vA
        rw [this]
        exact he
    refine (Cut.trans (b := opB c.o) (r := r) (s2 := vB ys) d3 (fun hne => by unfold vB; rw [ropS_bad hne]) (R := vKd ys = c.o.kd → (v1 ys).num 7 = c.q → (⟨ys, 0⟩ : St).num 1 = c.s → vC ys = c) (fun q3 he3 => ?_)).mono (fun q => q.2 q.1)
    have d4 := op_cut hkd hown h32 hb hm.nd hm.ex hm.ti hm.tx hr (s := vA ys) (k := k - (Wr.be 1 c.s).length - (Wr.be 7 c.q).length - (Wr.be 1 c.o.kd).length) he3
    unfold vB
    rw [q3]
    refine d4.mono (fun q f3 f2 f1 => ?_)
    unfold vC
    rw [f1, f2, q3, q])
  have el : (Wr.be 1 c.s ++ (Wr.be 7 c.q ++ (Wr.be 1 c.o.kd ++ opB c.o))) = cpackB c := rfl
  rw [el] at cB
  rcases cB with ⟨g, he⟩ | ⟨g, he, hq1, hq⟩
  · exact .inl ⟨g, by unfold vZ; rw [St.fail_bad (by rw [he]; decide)]; exact he⟩
  · have hvc := hq hq1
    refine .inr ⟨g, fun hn => ?_, fun hn => ?_⟩
    · unfold vZ
      have : decide (0 < ((vB ys).l.length : Int)) = true := by
        rw [he]
        have := List.length_pos_iff.2 hn
        exact decide_eq_true (by show (0 : Int) < ((r.take (k - (cpackB c).length)).length : Int); omega)
      rw [this, Bool.true_or]
      unfold St.fail
      rw [if_pos rfl, he, if_pos rfl]
    · refine ⟨?_, hvc⟩
      unfold vZ
      have h1 : decide (0 < ((vB ys).l.length : Int)) = false := by rw [he, hn]; rfl
      rw [h1, hvc, hc]
      show (vB ys).e = 0
      rw [he]
theorem oct_byt {s : St} (h : s.Ok) : Byt s.oct := by
  have h2 : Byt (s.nx 2).l := h.nx 2
  unfold St.oct St.some
  split
  · unfold Wr.bytV
    split
    · exact h2.take _
    · intro x hx; simp at hx
  · intro x hx; simp at hx
theorem op_inv {kd : Int} (hk : 1 ≤ kd ∧ kd ≤ 5) {s : St} (hb : s.Ok) (h : (ropS kd s).e = 0) : s.e = 0 ∧ s.l = opB (rop kd s) ++ (ropS kd s).l := by
  by_cases k12 : kd = 1 ∨ kd = 2
  · have es : ropS kd s = ((s.nx 1).sk 32).nx 7 := by unfold ropS; rw [if_pos k12]
    have er : rop kd s = ⟨kd, s.num 1, keyZ ((s.nx 1).some 32), ((s.nx 1).sk 32).num 7, ByteArray.empty, 0⟩ := by unfold rop; rw [if_pos k12]
    rw [es] at h ⊢
    rw [er]
    have hok2 : ((s.nx 1).sk 32).Ok := (hb.nx 1).sk _
    have h1 := St.nx_ok h
    have h2 := St.sk_ok h1
    obtain ⟨a3, _⟩ := St.nx_inv (n := 7) (.inr (.inr rfl)) hok2 h
    obtain ⟨a2, a2l⟩ := St.sk_inv (n := 32) (by decide) h1
    obtain ⟨a1, _⟩ := St.nx_inv (n := 1) (.inl rfl) hb h2
    have hkz : keyZ ((s.nx 1).some 32) = (s.nx 1).some 32 := by unfold keyZ; rw [if_neg (by intro h0; rw [h0] at a2l; simp at a2l)]
    refine ⟨St.nx_ok h2, ?_⟩
    have eb : opB ⟨kd, s.num 1, keyZ ((s.nx 1).some 32), ((s.nx 1).sk 32).num 7, ByteArray.empty, 0⟩ = Wr.be 1 (s.num 1) ++ ((s.nx 1).some 32 ++ Wr.be 7 (((s.nx 1).sk 32).num 7)) := by unfold opB; rw [if_pos k12, hkz]
    rw [eb]
    simp only [List.append_assoc]
    rw [← a3, ← a2]
    exact a1
  · by_cases k3 : kd = 3
    · subst k3
      obtain ⟨a1, _⟩ := St.nx_inv (n := 1) (.inl rfl) hb h
      exact ⟨St.nx_ok h, a1⟩
    · by_cases k4 : kd = 4
      · subst k4
        obtain ⟨a1, a2⟩ := St.ox_inv hb h
        refine ⟨a1, ?_⟩
        have eb : opB (rop 4 s) = olay (tb (bs s.oct)) := rfl
        rw [eb, tb_bs (oct_byt hb)]
        exact a2
      · have k5 : kd = 5 := by omega
        subst k5
        obtain ⟨a1, _⟩ := St.nx_inv (n := 7) (.inr (.inr rfl)) hb h
        exact ⟨St.nx_ok h, a1⟩
/-- Bytes that are a command. -/
theorem cmd_inv {ys : List Int} (hy : Byt ys) (h : (vZ ys).e = 0) : cmB (vC ys) = true ∧ ys = cpackB (vC ys) := by
  have hok : St.Ok ⟨ys, 0⟩ := hy
  obtain ⟨h1, h2, h3⟩ := St.fail_ok (by decide) h
  simp only [Bool.or_eq_false_iff, decide_eq_false_iff_not, Bool.not_eq_false'] at h2
  have ok1 : (v1 ys).Ok := hok.nx 1
  have ok2 : (v2 ys).Ok := ok1.nx 7
  have okA : (vA ys).Ok := (ok2.nx 1).fail _ _
  have hA : (vA ys).e = 0 := by
    by_cases hh : (vA ys).e = 0
    · exact hh
    · rw [show vB ys = ropS (vKd ys) (vA ys) from rfl, ropS_bad hh] at h1; exact absurd h1 hh
  obtain ⟨i3, hkd, eA⟩ := St.fail_ok (by decide) hA
  have hkd' : wiB (vKd ys) 1 5 = true := by simpa using hkd
  have i2 := St.nx_ok i3
  have i1 := St.nx_ok i2
  obtain ⟨_, b2⟩ := op_inv (wiB_iff.1 hkd') okA h1
  obtain ⟨c3, _⟩ := St.nx_inv (n := 1) (.inl rfl) ok2 i3
  obtain ⟨c2, _⟩ := St.nx_inv (n := 7) (.inr (.inr rfl)) ok1 i2
  obtain ⟨c1, _⟩ := St.nx_inv (s := ⟨ys, 0⟩) (n := 1) (.inl rfl) hok i1
  refine ⟨h2.2, ?_⟩
  have hl : (ropS (vKd ys) (vA ys)).l = [] := by
    have := h2.1
    rw [show vB ys = ropS (vKd ys) (vA ys) from rfl] at this
    exact List.eq_nil_of_length_eq_zero (by omega)
  rw [hl, List.append_nil] at b2
  have hk : (vC ys).o.kd = vKd ys := by
    show (rop (vKd ys) (vA ys)).kd = vKd ys
    unfold rop
    split
    · rfl
    · split
      · rfl
      · split
        · rfl
        · split
          · rfl
          · rfl
  unfold cpackB
  rw [hk, show (vC ys).o = rop (vKd ys) (vA ys) from rfl, ← b2, show (vA ys).l = ((v2 ys).nx 1).l by rw [show vA ys = (v2 ys).nx 1 from eA], show vKd ys = (v2 ys).num 1 from rfl, ← c3, show (vC ys).q = (v1 ys).num 7 from rfl, show (v2 ys).l = ((v1 ys).nx 7).l from rfl, ← c2]
  exact c1
end

section
theorem key_cells : Try.prog.cellsOf 32 = 32 := by kernel_rfl
theorem op_cells : Try.prog.cellsOf 34 = 37 := by kernel_rfl
theorem cmd_cells : Try.prog.cellsOf 36 = 39 := by kernel_rfl
theorem byte_cells : Try.prog.cellsOf 5 = 1 := by kernel_rfl
theorem str_cells : Try.prog.cellsOf 9 = 1 := by kernel_rfl
theorem open_key {H : Type} {enc : TypeId × Value → H} {W : World} {sp : Nat → Bool} {held : Bool} {fuel : Nat} {cs : List Value} {x : DataW H × List MemPlace} (hf : DataW.trod enc Try.prog W 0 sp held fuel 32 cs = some x) :
    ∃ ks : List Int, cs = bts ks ∧ ks.length = 32 ∧ Byt ks := by
  obtain ⟨xs, m, _, _, hl, hxl, hel⟩ := DataW.trod_array Try.underlying32 hf
  rw [key_cells] at hl
  have each : ∀ i, i < 32 → ∃ b : Int, cs[i]? = some (.int .u8 b) ∧ 0 ≤ b ∧ b < 256 := by
    intro i hi
    have h := hel i hi
    rw [byte_cells, Nat.mul_one] at h
    have hx : ∃ y, xs[i]? = some y := ⟨_, List.getElem?_eq_getElem (by omega)⟩
    obtain ⟨y, hy⟩ := hx
    rw [hy] at h
    obtain ⟨b, e, _, wf⟩ := DataW.trod_int Try.underlying5 h
    have hb := u8_wf wf
    refine ⟨b, ?_, hb.1, hb.2⟩
    have e2 : (cs.drop i).take 1 = [cs[i]'(by omega)] := by
      rw [List.drop_eq_getElem_cons (by omega)]
      rfl
    rw [e2] at e
    injection e with e
    rw [List.getElem?_eq_getElem (by omega), e]
  obtain ⟨ks, hkl, hk⟩ := list_of (fun i (b : Int) => cs[i]? = some (.int .u8 b) ∧ 0 ≤ b ∧ b < 256) 32 each
  refine ⟨ks, ?_, hkl, ?_⟩
  · apply List.ext_getElem?
    intro i
    by_cases hi : i < 32
    · rw [(hk i (by omega)).1, bts_getElem? ks i (by omega)]
    · rw [List.getElem?_eq_none (by omega), List.getElem?_eq_none (by rw [bts_length]; omega)]
  · intro x hx
    obtain ⟨i, hi, rfl⟩ := List.getElem_of_mem hx
    exact (hk i hi).2
theorem open_op {H : Type} {enc : TypeId × Value → H} {W : World} {sp : Nat → Bool} {held : Bool} {fuel : Nat} {cs : List Value} {x : DataW H × List MemPlace} (hf : DataW.trod enc Try.prog W 0 sp held fuel 34 cs = some x) :
    ∃ o : Ox, cs = o.L ∧ o.ks.length = 32 ∧ Byt o.ks := by
  obtain ⟨xs, m, _, _, hl, hxl, hfs⟩ := DataW.trod_struct Try.underlying34 hf
  rw [op_cells] at hl
  have g0 := hfs 0 _ rfl
  have g1 := hfs 1 _ rfl
  have g2 := hfs 2 _ rfl
  have g3 := hfs 3 _ rfl
  have g4 := hfs 4 _ rfl
  have g5 := hfs 5 _ rfl
  match xs, hxl with
  | [y0, y1, y2, y3, y4, y5], _ =>
    replace g0 : DataW.trod enc Try.prog W 0 sp held m 3 ((cs.drop 0).take (Try.prog.cellsOf 3)) = some y0 := g0
    replace g1 : DataW.trod enc Try.prog W 0 sp held m 3 ((cs.drop 1).take (Try.prog.cellsOf 3)) = some y1 := g1
    replace g2 : DataW.trod enc Try.prog W 0 sp held m 32 ((cs.drop 2).take (Try.prog.cellsOf 32)) = some y2 := g2
    replace g3 : DataW.trod enc Try.prog W 0 sp held m 3 ((cs.drop 34).take (Try.prog.cellsOf 3)) = some y3 := g3
    replace g4 : DataW.trod enc Try.prog W 0 sp held m 9 ((cs.drop 35).take (Try.prog.cellsOf 9)) = some y4 := g4
    replace g5 : DataW.trod enc Try.prog W 0 sp held m 3 ((cs.drop 36).take (Try.prog.cellsOf 3)) = some y5 := g5
    rw [cint_cells] at g0 g1 g3 g5
    rw [key_cells] at g2
    rw [str_cells] at g4
    obtain ⟨a0, e0, _, w0⟩ := DataW.trod_int Try.underlying3 g0
    obtain ⟨a1, e1, _, w1⟩ := DataW.trod_int Try.underlying3 g1
    obtain ⟨ks, e2, hk, hb⟩ := open_key g2
    obtain ⟨a3, e3, _, w3⟩ := DataW.trod_int Try.underlying3 g3
    obtain ⟨s4, e4, _⟩ := DataW.trod_string Try.underlying9 g4
    obtain ⟨a5, e5, _, w5⟩ := DataW.trod_int Try.underlying3 g5
    refine ⟨⟨a0, a1, ks, a3, s4, a5⟩, ?_, hk, hb⟩
    have hc : cs = cs.take 1 ++ ((cs.drop 1).take 1 ++ ((cs.drop 2).take 32 ++ ((cs.drop 34).take 1 ++ ((cs.drop 35).take 1 ++ (cs.drop 36).take 1)))) := by
      apply List.ext_getElem?
      intro i
      have h36 : (cs.drop 36).take 1 = cs.drop 36 := List.take_of_length_le (by simp; omega)
      rw [h36, show cs.drop 36 = (cs.drop 35).drop 1 by rw [List.drop_drop], List.take_append_drop, show cs.drop 35 = (cs.drop 34).drop 1 by rw [List.drop_drop], List.take_append_drop, show cs.drop 34 = (cs.drop 2).drop 32 by rw [List.drop_drop], List.take_append_drop, show cs.drop 2 = (cs.drop 1).drop 1 by rw [List.drop_drop], List.take_append_drop, List.take_append_drop]
    simp only [List.drop_zero] at e0
    rw [hc, e0, e1, e2, e3, e4, e5]
    rfl
theorem open_cmd {H : Type} {enc : TypeId × Value → H} {W : World} {base : Nat} {sp : Nat → Bool} {held : Bool} {v : Value} {d : DataW H} {pl : List MemPlace} (hv : Value.okWide Try.prog W .any base 36 v) (ht : DataW.Trod enc Try.prog W 0 sp held 36 v d pl) :
    ∃ c : Co, v = c.v ∧ c.o.ks.length = 32 ∧ Byt c.o.ks := by
  simp only [Value.okWide, Try.underlying36] at hv
  obtain ⟨cs, rfl, hsz, _⟩ := hv
  obtain ⟨cs⟩ := cs
  rw [cmd_cells] at hsz
  obtain ⟨fuel, hf⟩ := ht
  obtain ⟨xs, m, _, _, hl, hxl, hfs⟩ := DataW.trod_struct Try.underlying36 hf
  have g0 := hfs 0 _ rfl
  have g1 := hfs 1 _ rfl
  have g2 := hfs 2 _ rfl
  match xs, hxl with
  | [y0, y1, y2], _ =>
    replace g0 : DataW.trod enc Try.prog W 0 sp held m 3 ((cs.drop 0).take (Try.prog.cellsOf 3)) = some y0 := g0
    replace g1 : DataW.trod enc Try.prog W 0 sp held m 3 ((cs.drop 1).take (Try.prog.cellsOf 3)) = some y1 := g1
    replace g2 : DataW.trod enc Try.prog W 0 sp held m 34 ((cs.drop 2).take (Try.prog.cellsOf 34)) = some y2 := g2
    rw [cint_cells] at g0 g1
    rw [op_cells] at g2
    obtain ⟨a0, e0, _, w0⟩ := DataW.trod_int Try.underlying3 g0
    obtain ⟨a1, e1, _, w1⟩ := DataW.trod_int Try.underlying3 g1
    obtain ⟨o, e2, hk, hb⟩ := open_op g2
    refine ⟨⟨a0, a1, o⟩, ?_, hk, hb⟩
    have hl2 : cs.length = 39 := by simpa using hsz
    simp only [List.drop_zero] at e0 e1 e2
    have hc : cs = cs.take 1 ++ ((cs.drop 1).take 1 ++ (cs.drop 2).take 37) := by
      have h2 : (cs.drop 2).take 37 = cs.drop 2 := List.take_of_length_le (by simp; omega)
      rw [h2, show cs.drop 2 = (cs.drop 1).drop 1 by rw [List.drop_drop], List.take_append_drop, List.take_append_drop]
    have : cs = (⟨a0, a1, o⟩ : Co).L := by
      rw [hc, e0, e1, e2]
      rfl
    rw [this]
def coB (x y : Co) : Bool := (x.s == y.s) && ((x.q == y.q) && oxB x.o y.o)
theorem fields36 : (Try.prog.fieldsOf 36).toList.map (fun f => (f.name, f.type, f.offset)) = [("Session", 3, 0), ("Seq", 3, 1), ("Op", 34, 2)] := by kernel_rfl
theorem agg34 (w : World) : (isAgg 34).run Try.prog w = .ok true w := by kernel_rfl
theorem size34 (w : World) : (sizeOf 34).run Try.prog w = .ok 37 w := by kernel_rfl
theorem part_op {c : Co} (h : c.o.ks.length = 32) (w : World) : (part 34 c.L.toArray 2).run Try.prog w = .ok c.o.v w := by
  have e : c.L.toArray.extract 2 (2 + 37) = c.o.L.toArray := by
    have hl := Ox.len h
    have : c.L.toArray.extract 2 (2 + 37) = ((c.L.drop 2).take 37).toArray := by apply Array.ext'; simp
    rw [this]
    simp only [Co.L, List.drop_succ_cons, List.drop_zero]
    rw [List.take_of_length_le (by omega)]
  unfold part
  simp only [Sem.run_bind, agg34, Result.andThen_ok, if_true, size34, Sem.run_pure, e]
theorem eq34D {x y : Ox} (hx : x.ks.length = 32) (hy : y.ks.length = 32) (w : World) : (Op.equalIn 9999 34 x.v y.v).run Try.prog w = .ok (oxB x y) w := by
  have hfo : Try.prog.underlying 34 = some (.struct (Try.prog.fieldsOf 34)) := by kernel_rfl
  have hst : Try.prog.stoodInHeld 34 = false := by kernel_rfl
  rw [run_equalIn_agg w 9998 34 _ _ hfo hst]
  rw [eq_fields 9998 _ _ w _ [⟨"Kind", 3, 0, false, "", "", 0⟩, ⟨"Node", 3, 1, false, "", "", 0⟩, ⟨"Key", 32, 2, false, "", "", 0⟩, ⟨"Expiry", 3, 34, false, "", "", 0⟩, ⟨"Text", 9, 35, false, "", "", 0⟩, ⟨"At", 3, 36, false, "", "", 0⟩] fields34]
  have i3 := Try.underlying3
  have i9 := Try.underlying9
  have e3 : ∀ (a b : Int) (w : World), (Op.equalIn 9998 3 (.int .i64 a) (.int .i64 b)).run Try.prog w = .ok (a == b) w := fun a b w => run_equalIn_int w 9997 3 .i64 _ a b i3
  have e9 : ∀ (a b : ByteArray) (w : World), (Op.equalIn 9998 9 (.string a) (.string b)).run Try.prog w = .ok (a.toList == b.toList) w := fun a b w => run_equalIn_string w 9997 9 a b i9
  have hkey : (Op.equalIn 9998 32 (.agg (x.ks.map (Value.int .u8)).toArray) (.agg (y.ks.map (Value.int .u8)).toArray)).run Try.prog w = .ok (x.ks == y.ks) w := run_equalIn_key w 9996 x.ks y.ks hx hy
  have x0 : x.L.toArray[0]? = some (.int .i64 x.kd) := rfl
  have y0 : y.L.toArray[0]? = some (.int .i64 y.kd) := rfl
  have x1 : x.L.toArray[1]? = some (.int .i64 x.nd) := rfl
  have y1 : y.L.toArray[1]? = some (.int .i64 y.nd) := rfl
  simp only [Op.eqFields, Sem.run_bind, Sem.run_ite, part_int x0, part_int y0, part_int x1, part_int y1, part_key, Ox.key hx, Ox.key hy, part_int (Ox.at34 hx), part_int (Ox.at34 hy), part_str (Ox.at35 hx), part_str (Ox.at35 hy), part_int (Ox.at36 hx), part_int (Ox.at36 hy), Result.andThen_ok, e3, e9, hkey, Sem.run_pure]
  unfold oxB
  cases h1 : (x.kd == y.kd) <;> cases h2 : (x.nd == y.nd) <;> cases h3 : (x.ks == y.ks) <;> cases h4 : (x.ex == y.ex) <;> cases h5 : (x.tx.toList == y.tx.toList) <;> cases h6 : (x.ti == y.ti) <;> simp
theorem eq36D {x y : Co} (hx : x.o.ks.length = 32) (hy : y.o.ks.length = 32) (w : World) : (Op.equalIn 10000 36 x.v y.v).run Try.prog w = .ok (coB x y) w := by
  have hfo : Try.prog.underlying 36 = some (.struct (Try.prog.fieldsOf 36)) := by kernel_rfl
  have hst : Try.prog.stoodInHeld 36 = false := by kernel_rfl
  rw [run_equalIn_agg w 9999 36 _ _ hfo hst]
  rw [eq_fields 9999 _ _ w _ [⟨"Session", 3, 0, false, "", "", 0⟩, ⟨"Seq", 3, 1, false, "", "", 0⟩, ⟨"Op", 34, 2, false, "", "", 0⟩] fields36]
  have i3 := Try.underlying3
  have e3 : ∀ (a b : Int) (w : World), (Op.equalIn 9999 3 (.int .i64 a) (.int .i64 b)).run Try.prog w = .ok (a == b) w := fun a b w => run_equalIn_int w 9998 3 .i64 _ a b i3
  have x0 : x.L.toArray[0]? = some (.int .i64 x.s) := rfl
  have y0 : y.L.toArray[0]? = some (.int .i64 y.s) := rfl
  have x1 : x.L.toArray[1]? = some (.int .i64 x.q) := rfl
  have y1 : y.L.toArray[1]? = some (.int .i64 y.q) := rfl
  simp only [Op.eqFields, Sem.run_bind, Sem.run_ite, part_int x0, part_int y0, part_int x1, part_int y1, part_op hx, part_op hy, Result.andThen_ok, e3, eq34D hx hy, Sem.run_pure]
  unfold coB
  cases h1 : (x.s == y.s) <;> cases h2 : (x.q == y.q) <;> cases h3 : oxB x.o y.o <;> simp
theorem coB_refl (x : Co) : coB x x = true := by simp [coB, oxB_refl]
theorem step_cmp36 {ops : Array Oper} {rest : List Oper} {op : Oper} {a : Act} {w : World} {Q : Exit → Act → World → Prop} (hw : Region.wanted op (yielded ops a.tmps) = true) (bo : BinOp) (hbo : bo = .eql ∨ bo = .neq) (x y : Operand) (ho : op.op = .binOp bo 36 x y 36)
    (c d : Co) (hx : a.eval x = c.v) (hy : a.eval y = d.v) (hc : c.o.ks.length = 32) (hd : d.o.ks.length = 32) (r : Bool) (hr : (if bo = .eql then coB c d else !(coB c d)) = r)
    (h : wpList Try.prog ops Q rest (a.put op.dst (.bool r)) w) : wpList Try.prog ops Q (op :: rest) a w :=
  BigFrame.wpList_want hw fun K hK => by
    have hg : Try.prog.eqGuardType Try.prog.depth 36 = false := by kernel_rfl
    unfold Oper.wp execOp
    rcases hbo with rfl | rfl
    · simp only [ho, hx, hy, Sem.run_bind, run_eqGuard_agg w .eql 36 x y _ _ hg, run_eql_struct, eq36D hc hd, Result.andThen_ok, Sem.run_pure]
      rw [if_pos rfl] at hr
      rw [hr]
      exact hK _ _ h
    · simp only [ho, hx, hy, Sem.run_bind, run_eqGuard_agg w .neq 36 x y _ _ hg, run_neq_struct, eq36D hc hd, Result.andThen_ok, Sem.run_pure]
      rw [if_neg (by decide)] at hr
      rw [hr]
      exact hK _ _ h
end

section
theorem be_get : ∀ (n k : Nat) (v : Int) (hk : k < n), (Wr.be n v)[k]? = some (v / 2 ^ (8 * (n - 1 - k)) % 256)
  | 0, k, v, hk => by omega
  | n + 1, k, v, hk => by
    show (Wr.be n (v / 256) ++ [v % 256])[k]? = _
    by_cases h : k < n
    · rw [List.getElem?_append_left (by rw [Wr.be_length]; exact h), be_get n k _ h]
      congr 2
      have e : n + 1 - 1 - k = (n - 1 - k) + 1 := by omega
      rw [e, show 8 * (n - 1 - k + 1) = 8 + 8 * (n - 1 - k) by omega, Int.pow_add, Int.ediv_ediv_of_nonneg (by decide)]
      rfl
    · have hkn : k = n := by omega
      subst hkn
      rw [List.getElem?_append_right (by rw [Wr.be_length]; omega), Wr.be_length]
      simp
/-- Bytes behind bytes: the slice is the call's own, of a block no less than B. -/
def OutDid (B : Nat) (v : Value) (zs : List Int) (w : World) (e : Ending) (w' : World) : Prop :=
  ∃ A c, e = .returned (.slice A zs.length c) ∧ w'.ownsRow B 5 1 (.slice A zs.length c) zs.length (bts zs) ∧ Mod (fun i => v.ownBlock = some i) w w' ∧ ∀ i, (Value.slice A zs.length c).ownBlock = some i → v.ownBlock = some i ∨ w.heap.size ≤ i
theorem own_len (A : Option Addr) (n m c d : Nat) : (Value.slice A n c).ownBlock = (Value.slice A m d).ownBlock := by cases A <;> rfl
theorem bts_app (xs ys : List Int) : bts (xs ++ ys) = bts xs ++ bts ys := by simp [bts]
set_option maxHeartbeats 1000000 in
theorem put_doc (B : Nat) (A : Option Addr) (c : Nat) (xs : List Int) (v : Int) (n : Nat) (hn : Sz n) (hv : 0 ≤ v ∧ v ≤ 9007199254740991) (hl : xs.length ≤ 100000000) (w : World) (ho : w.ownsRow B 5 1 (.slice A xs.length c) xs.length (bts xs)) (hB : B ≤ w.heap.size) :
    Calls Try.prog 53 #[.slice A xs.length c, .int .i64 v, .int .i64 n] w (OutDid B (.slice A xs.length c) (xs ++ Wr.be n v) w) := by
  obtain ⟨i0, hi0, hz0, hz1, hz2⟩ := info_parts info5
  have hrng := hn.rng
  have hn7 : n ≤ 7 := by unfold Sz at hn; omega
  have HO := Lib.hid ho
  have HBL := Lib.hid (Mod.refl (fun i => (Value.slice A xs.length c).ownBlock = some i) w)
  have HV := Lib.hid hv
  obtain ⟨hr1, hr2⟩ := hrng
  clear ho hn hv
  go_enter Try.func53, Try.ntmps53
  go_wp2_with fail
  go_loopw [0, 7] (fun o i wr => ∃ (k A' c' : _), k ≤ n ∧ i = .int .i64 ((n : Int) - (k : Nat) - 1) ∧ o = .slice A' (xs.length + k) c' ∧ wr.ownsRow B 5 1 (.slice A' (xs.length + k) c') (xs.length + k) (bts (xs ++ (Wr.be n v).take k)) ∧ Mod (fun i => (Value.slice A xs.length c).ownBlock = some i) w wr ∧ ∀ i, (Value.slice A' (xs.length + k) c').ownBlock = some i → (Value.slice A xs.length c).ownBlock = some i ∨ w.heap.size ≤ i) (fun _ i _ => (intOf i + 1).toNat)
  case atStart => exact ⟨0, A, c, Nat.zero_le _, by go_num, rfl, by simpa using HO.out, HBL.out, fun i hi => .inl (by rw [← hi]; exact own_len ..)⟩
  case round =>
    obtain ⟨k, A', c', hk, rfl, rfl, ho', hb, hsz⟩ := hrel
    have HO' := Lib.hid (ho'.alloc)
    have HOW := Lib.hid ho'
    have HB := Lib.hid hb
    have HS := Lib.hid hsz
    obtain ⟨wv, rfl⟩ : ∃ wv, wv = wr := ⟨_, rfl⟩
    clear ho' hb hsz
    by_cases hlt : k < n
    · obtain ⟨j, hj⟩ : ∃ j : Nat, (n : Int) - (k : Nat) - 1 = j := ⟨n - k - 1, by omega⟩
      rw [hj]
      have hj6 : j ≤ 6 := by omega
      have hj0 : (0 : Int) ≤ (j : Int) := by omega
      have HJ := Lib.hid hj
      clear hj
      obtain ⟨y, hy⟩ : ∃ y, y = v / 2 ^ (8 * j) % 256 := ⟨_, rfl⟩
      have HY := Lib.hid (show (Wr.be n v).take (k + 1) = (Wr.be n v).take k ++ [y] by
        have hk2 : k < (Wr.be n v).length := by rw [Wr.be_length]; exact hlt
        rw [List.take_add_one, be_get n k v hlt, hy, show n - 1 - k = j by have := HJ.out; omega]
        rfl)
      go_wp2_with (at_builtin; rw [← hy]; clear hy; refine wpList_append_rd _ rfl (.tmp 14) (.tmp 20) _ rfl B 5 i0 _ 1 1 Try.underlying23 hi0 hz0 hz1 hz2 rfl (by omega) (.slice A' (xs.length + k) c') (xs.length + k) (bts (xs ++ (Wr.be n v).take k)) rfl (HO'.out (.cells #[.int .u8 y] 5)) (fun j => j = wv.heap.size) (.slice (some ⟨wv.heap.size, 0, none⟩) 1 1) 1 [.int .u8 y] rfl (Rd.box wv 5 [.int .u8 y] 1 rfl) (by simp [Value.oneCell']) (by simp only [maxLen]; omega) (by omega) (by have := HB.out.size; simp; omega) ?_; intro v2 w5 HA)
      obtain ⟨A2, c2, rfl⟩ := own_slice HA.own
      have HA' := Lib.hid HA
      clear HA
      go_wp2_with fail
      go_roundw
      case rel =>
        have hg := HA'.out.grown
        have ho2 := HA'.out.own
        refine ⟨k + 1, A2, c2, by omega, ?_, by rw [Nat.add_assoc], ?_, ?_, ?_⟩
        · have := HJ.out
          first | (simp; done) | (simp; omega)
        · rw [HY.out, ← List.append_assoc, bts_app]
          exact ho2
        · exact ((HB.out.alloc _).grown hg (fun j hj => HS.out j hj))
        · intro i hi
          rcases HA'.out.at_ with h | h
          · exact HS.out i (by rw [← h, ← hi]; exact own_len ..)
          · have e : some i = some (wv.alloc (.cells #[.int .u8 y] 5)).heap.size := by rw [← h, ← hi]; exact own_len ..
            have := HB.out.size
            simp at e
            exact .inr (by omega)
      case measure => first | (simp [intOf]; done) | (simp [intOf]; omega)
    · have hkn : k = n := by omega
      subst hkn
      have e0 : (k : Int) - (k : Nat) - 1 = -1 := by omega
      rw [e0]
      have HT := Lib.hid (show (Wr.be k v).take k = Wr.be k v from List.take_of_length_le (by rw [Wr.be_length]; omega))
      go_wp2_with fail
      go_ret
      have hle : (xs ++ Wr.be k v).length = xs.length + k := by rw [List.length_append, Wr.be_length]
      refine ⟨A', c', by rw [hle]; rfl, ?_, HB.out, fun i hi => HS.out i (by rw [← hi]; exact own_len ..)⟩
      rw [hle]
      have h2 := HOW.out
      rw [HT.out] at h2
      exact h2
set_option maxHeartbeats 1000000 in
theorem octets_doc (B : Nat) (T : Nat → Prop) (A Ab : Option Addr) (c cb : Nat) (xs bs : List Int) (hb6 : bs.length ≤ 65535) (hl : xs.length ≤ 100000000) (w : World) (ho : w.ownsRow B 5 1 (.slice A xs.length c) xs.length (bts xs)) (hB : B ≤ w.heap.size)
    (hr : Rd w T 1 (.slice Ab bs.length cb) bs.length (bts bs)) (hT : ∀ i, T i → i < B) :
    Calls Try.prog 54 #[.slice A xs.length c, .slice Ab bs.length cb] w (OutDid B (.slice A xs.length c) (xs ++ olay bs) w) := by
  obtain ⟨i0, hi0, hz0, hz1, hz2⟩ := info_parts info5
  have HO := Lib.hid ho
  have HR := Lib.hid hr
  have HT := Lib.hid hT
  clear ho hr hT
  go_enter Try.func54, Try.ntmps54
  go_wp2_with fail
  refine (put_doc B A c xs (bs.length : Int) 2 (.inr (.inl rfl)) ⟨by omega, by omega⟩ hl w HO.out hB).mono ?_
  rintro e w1 ⟨A1, c1, rfl, ho1, hb1, hw1⟩
  have HO1 := Lib.hid ho1
  have HR1 := Lib.hid (HR.out.kept hb1 (fun i hi h => by have := own_ge HO.out i h; have := HT.out i hi; omega))
  have HB1 := Lib.hid hb1
  have HW1 := Lib.hid hw1
  have hsz := hb1.size
  have hle : (xs ++ Wr.be 2 (bs.length : Int)).length = xs.length + 2 := by rw [List.length_append, Wr.be_length]
  obtain ⟨zs, hzs⟩ : ∃ zs, zs = xs ++ Wr.be 2 (bs.length : Int) := ⟨_, rfl⟩
  rw [← hzs] at HO1 hle HW1 ⊢
  have HZ := Lib.hid hzs
  have HLE := Lib.hid hle
  clear ho1 hb1 hzs hle hw1
  go_wp2_with (at_builtin; refine wpList_append_rd _ rfl (.tmp 9) (.tmp 10) _ rfl B 5 i0 _ 1 1 Try.underlying23 hi0 hz0 hz1 hz2 rfl (by omega) (.slice A1 zs.length c1) zs.length (bts zs) rfl HO1.out T (.slice Ab bs.length cb) bs.length (bts bs) rfl HR1.out (bts_one bs) (by have := HLE.out; simp only [maxLen]; omega) (by have := HLE.out; omega) (by omega) ?_; intro v2 w5 HA)
  obtain ⟨A2, c2, rfl⟩ := own_slice HA.own
  go_ret
  have e1 : xs ++ olay bs = zs ++ bs := by rw [HZ.out, olay, List.append_assoc]
  have hle2 : (zs ++ bs).length = zs.length + bs.length := by simp
  refine ⟨A2, c2, by rw [e1, hle2]; rfl, ?_, HB1.out.grown HA.grown (fun j hj => HW1.out j hj), fun i hi => ?_⟩
  · rw [e1, hle2, bts_app]
    exact HA.own
  · rcases HA.at_ with h | h
    · exact HW1.out i (by rw [← h, ← hi]; exact own_len ..)
    · have e : some i = some w1.heap.size := by rw [← h, ← hi]; exact own_len ..
      injection e with e
      exact .inr (by omega)
theorem one_doc (b : Bool) (w : World) : Calls Try.prog 77 #[.bool b] w fun e w' => e = .returned (.int .i64 (if b then 1 else 0)) ∧ w = w' := by
  cases b
  · go_enter Try.func77, Try.ntmps77
    go_wp2_with fail
    go_ret
    exact ⟨rfl, rfl⟩
  · go_enter Try.func77, Try.ntmps77
    go_wp2_with fail
    go_ret
    exact ⟨rfl, rfl⟩
end

section
theorem refbytes_bad (c : Co) (W : World) (hk : c.o.ks.length = 32) (hc : cmB c = false) :
    Calls Try.prog 23 #[c.v] W fun e w' => e = .returned (.tuple #[.slice none 0 0, .int .i64 2]) ∧ Below W.heap.size W w' := by
  have HG := Lib.hid (Blk.new W 36 c.L.toArray)
  have HC := Lib.hid hc
  have HK := Lib.hid hk
  clear hc hk
  go_enter Try.func23, Try.ntmps23
  go_wp2_with (first | (refine step_load36 rfl (.tmp 1) rfl W.heap.size rfl c HK.out (blk_range HG.out) ?_) | fail)
  refine (refmay_any c _ HK.out).mono ?_
  rw [HC.out]
  rintro e w1 ⟨rfl, hb⟩
  have HB := Lib.hid (Bt (Ba (B0 W) _) hb)
  clear hb
  go_wp2_with fail
  go_ret2
  exact ⟨rfl, HB.out⟩
set_option maxHeartbeats 1000000 in
theorem octets_doc2 (B : Nat) (T : Nat → Prop) (A Ab : Option Addr) (c cb : Nat) (xs bs : List Int) (hb6 : bs.length ≤ 65535) (hl : xs.length ≤ 100000000) (w : World) (ho : w.ownsRow B 5 1 (.slice A xs.length c) xs.length (bts xs)) (hB : B ≤ w.heap.size)
    (hr : Rd w T 1 (.slice Ab bs.length cb) bs.length (bts bs)) (hT : ∀ i, T i → ¬ (Value.slice A xs.length c).ownBlock = some i) :
    Calls Try.prog 54 #[.slice A xs.length c, .slice Ab bs.length cb] w (OutDid B (.slice A xs.length c) (xs ++ olay bs) w) := by
  obtain ⟨i0, hi0, hz0, hz1, hz2⟩ := info_parts info5
  have HO := Lib.hid ho
  have HR := Lib.hid hr
  have HT := Lib.hid hT
  clear ho hr hT
  go_enter Try.func54, Try.ntmps54
  go_wp2_with fail
  refine (put_doc B A c xs (bs.length : Int) 2 (.inr (.inl rfl)) ⟨by omega, by omega⟩ hl w HO.out hB).mono ?_
  rintro e w1 ⟨A1, c1, rfl, ho1, hb1, hw1⟩
  have HO1 := Lib.hid ho1
  have HR1 := Lib.hid (HR.out.kept hb1 (fun i hi h => HT.out i hi h))
  have HB1 := Lib.hid hb1
  have HW1 := Lib.hid hw1
  have hsz := hb1.size
  have hle : (xs ++ Wr.be 2 (bs.length : Int)).length = xs.length + 2 := by rw [List.length_append, Wr.be_length]
  obtain ⟨zs, hzs⟩ : ∃ zs, zs = xs ++ Wr.be 2 (bs.length : Int) := ⟨_, rfl⟩
  rw [← hzs] at HO1 hle HW1 ⊢
  have HZ := Lib.hid hzs
  have HLE := Lib.hid hle
  clear ho1 hb1 hzs hle hw1
  go_wp2_with (at_builtin; refine wpList_append_rd _ rfl (.tmp 9) (.tmp 10) _ rfl B 5 i0 _ 1 1 Try.underlying23 hi0 hz0 hz1 hz2 rfl (by omega) (.slice A1 zs.length c1) zs.length (bts zs) rfl HO1.out T (.slice Ab bs.length cb) bs.length (bts bs) rfl HR1.out (bts_one bs) (by have := HLE.out; simp only [maxLen]; omega) (by have := HLE.out; omega) (by omega) ?_; intro v2 w5 HA)
  obtain ⟨A2, c2, rfl⟩ := own_slice HA.own
  go_ret
  have e1 : xs ++ olay bs = zs ++ bs := by rw [HZ.out, olay, List.append_assoc]
  have hle2 : (zs ++ bs).length = zs.length + bs.length := by simp
  refine ⟨A2, c2, by rw [e1, hle2]; rfl, ?_, HB1.out.grown HA.grown (fun j hj => HW1.out j hj), fun i hi => ?_⟩
  · rw [e1, hle2, bts_app]
    exact HA.own
  · rcases HA.at_ with h | h
    · exact HW1.out i (by rw [← h, ← hi]; exact own_len ..)
    · have e : some i = some w1.heap.size := by rw [← h, ← hi]; exact own_len ..
      injection e with e
      exact .inr (by omega)
set_option maxHeartbeats 4000000 in
theorem refbytes_ok (c : Co) (W : World) (hk : c.o.ks.length = 32) (hc : cmB c = true) :
    Calls Try.prog 23 #[c.v] W fun e w' => ∃ A cap, e = .returned (.tuple #[.slice A (cpackB c).length cap, .int .i64 0]) ∧ w'.ownsRow W.heap.size 5 1 (.slice A (cpackB c).length cap) (cpackB c).length (bts (cpackB c)) ∧ Below W.heap.size W w' := by
  have HG0 := Lib.hid (Blk.new W 36 c.L.toArray)
  have HC := Lib.hid hc
  have HMAY := Lib.hid (cmay_of hc)
  have HK := Lib.hid hk
  clear hc hk
  go_enter Try.func23, Try.ntmps23
  go_wp2_with (first | (refine step_load36 rfl (.tmp 1) rfl W.heap.size rfl c HK.out (blk_range HG0.out) ?_) | fail)
  refine (refmay_any c _ HK.out).mono ?_
  rw [HC.out]
  rintro e w0 ⟨rfl, hb⟩
  have HG := Lib.hid (HG0.out.later hb)
  have HB := Lib.hid (Bt (Ba (B0 W) _) hb)
  have HBW := Lib.hid HB.out.size
  have HO := Lib.hid (show w0.ownsRow W.heap.size 5 1 (.slice none ([] : List Int).length 0) ([] : List Int).length (bts []) from World.ownsRow_nil _ _ _ _)
  have HNG := Lib.hid (show ∀ i, (Value.slice none ([] : List Int).length 0).ownBlock = some i → i ≠ W.heap.size from fun i hi => by cases hi)
  have HW := Lib.hid (show ∀ i, (Value.slice none ([] : List Int).length 0).ownBlock = some i → W.heap.size ≤ i from fun i hi => by cases hi)
  clear hb HG0
  obtain ⟨x0, x1, xr⟩ := co_op (blk_range HG.out)
  obtain ⟨x2, x3, _, x36, x37, x38⟩ := ox_cells xr HK.out
  simp only [Nat.zero_add, Nat.reduceAdd] at x2 x3 x36 x37 x38
  have lg := HG.out.lt
  have HNGo := HNG
  have HWo := HW
  clear xr
  go_wp2_with fail
  refine (put_doc W.heap.size none 0 ([] : List Int) c.s 1 (.inl rfl) (by have := HMAY.out.s; omega) (by simp) w0 HO.out HBW.out).mono ?_
  rintro e w1 ⟨A1, c1, rfl, ho, hm, hn⟩
  have hgl := HG.out.lt
  replace HNG := Lib.hid (fun i hi => (show i ≠ W.heap.size from (hn i hi).elim (fun h => HNG.out i h) (fun h => by omega)))
  have hs1 := HBW.out
  replace HW := Lib.hid (fun i hi => (show W.heap.size ≤ i from (hn i hi).elim (fun h => HW.out i h) (fun h => Nat.le_trans hs1 h)))
  replace HG := Lib.hid (HG.out.kept hm (fun h => HNGo.out _ h rfl))
  replace HBW := Lib.hid (Nat.le_trans HBW.out hm.size)
  replace HB := Lib.hid (Bm HB.out hm (fun i hi => HWo.out i hi))
  obtain ⟨ys1, hys1⟩ : ∃ ys, ys = ([] : List Int) ++ Wr.be 1 c.s := ⟨_, rfl⟩
  rw [← hys1] at ho HNG HW ⊢
  replace HO := Lib.hid ho
  have HY1 := Lib.hid hys1
  have hl1 : ys1.length ≤ 8 := by rw [hys1, List.length_append]; simp only [Wr.be_length]; simp
  clear ho hm hn hgl hs1 hys1 x0 x1 x2 x3 x36 x37 x38 lg HNGo HWo
  obtain ⟨x0, x1, xr⟩ := co_op (blk_range HG.out)
  obtain ⟨x2, x3, _, x36, x37, x38⟩ := ox_cells xr HK.out
  simp only [Nat.zero_add, Nat.reduceAdd] at x2 x3 x36 x37 x38
  have lg := HG.out.lt
  have HNGo := HNG
  have HWo := HW
  clear xr
  go_wp2_with fail
  refine (put_doc W.heap.size A1 c1 ys1 c.q 7 (.inr (.inr rfl)) (by have := HMAY.out.q; omega) (by omega) w1 HO.out HBW.out).mono ?_
  rintro e w2 ⟨A2, c2, rfl, ho, hm, hn⟩
  have hgl := HG.out.lt
  replace HNG := Lib.hid (fun i hi => (show i ≠ W.heap.size from (hn i hi).elim (fun h => HNG.out i h) (fun h => by omega)))
  have hs1 := HBW.out
  replace HW := Lib.hid (fun i hi => (show W.heap.size ≤ i from (hn i hi).elim (fun h => HW.out i h) (fun h => Nat.le_trans hs1 h)))
  replace HG := Lib.hid (HG.out.kept hm (fun h => HNGo.out _ h rfl))
  replace HBW := Lib.hid (Nat.le_trans HBW.out hm.size)
  replace HB := Lib.hid (Bm HB.out hm (fun i hi => HWo.out i hi))
  obtain ⟨ys2, hys2⟩ : ∃ ys, ys = ys1 ++ Wr.be 7 c.q := ⟨_, rfl⟩
  rw [← hys2] at ho HNG HW ⊢
  replace HO := Lib.hid ho
  have HY2 := Lib.hid hys2
  have hl2 : ys2.length ≤ 16 := by rw [hys2, List.length_append]; simp only [Wr.be_length]; omega
  clear ho hm hn hgl hs1 hys2 x0 x1 x2 x3 x36 x37 x38 lg HNGo HWo
  obtain ⟨x0, x1, xr⟩ := co_op (blk_range HG.out)
  obtain ⟨x2, x3, _, x36, x37, x38⟩ := ox_cells xr HK.out
  simp only [Nat.zero_add, Nat.reduceAdd] at x2 x3 x36 x37 x38
  have lg := HG.out.lt
  have HNGo := HNG
  have HWo := HW
  clear xr
  go_wp2_with fail
  refine (put_doc W.heap.size A2 c2 ys2 c.o.kd 1 (.inl rfl) (by have := HMAY.out.kd; omega) (by omega) w2 HO.out HBW.out).mono ?_
  rintro e w3 ⟨A3, c3, rfl, ho, hm, hn⟩
  have hgl := HG.out.lt
  replace HNG := Lib.hid (fun i hi => (show i ≠ W.heap.size from (hn i hi).elim (fun h => HNG.out i h) (fun h => by omega)))
  have hs1 := HBW.out
  replace HW := Lib.hid (fun i hi => (show W.heap.size ≤ i from (hn i hi).elim (fun h => HW.out i h) (fun h => Nat.le_trans hs1 h)))
  replace HG := Lib.hid (HG.out.kept hm (fun h => HNGo.out _ h rfl))
  replace HBW := Lib.hid (Nat.le_trans HBW.out hm.size)
  replace HB := Lib.hid (Bm HB.out hm (fun i hi => HWo.out i hi))
  obtain ⟨ys3, hys3⟩ : ∃ ys, ys = ys2 ++ Wr.be 1 c.o.kd := ⟨_, rfl⟩
  rw [← hys3] at ho HNG HW ⊢
  replace HO := Lib.hid ho
  have HY3 := Lib.hid hys3
  have hl3 : ys3.length ≤ 24 := by rw [hys3, List.length_append]; simp only [Wr.be_length]; omega
  clear ho hm hn hgl hs1 hys3 x0 x1 x2 x3 x36 x37 x38 lg HNGo HWo
  by_cases k5 : c.o.kd = 5
  · have h3 : ¬ c.o.kd ≤ 3 := by omega
    have h2 : ¬ c.o.kd ≤ 2 := by omega
    have h4 : (c.o.kd == 4) = false := by simp [k5]
    have h5 : (c.o.kd == 5) = true := by simp [k5]
    have KK := Lib.hid k5
    clear k5
    obtain ⟨x0, x1, xr⟩ := co_op (blk_range HG.out)
    obtain ⟨x2, x3, _, x36, x37, x38⟩ := ox_cells xr HK.out
    simp only [Nat.zero_add, Nat.reduceAdd] at x2 x3 x36 x37 x38
    have lg := HG.out.lt
    have HNGo := HNG
    have HWo := HW
    clear xr
    go_wp2_with fail
    refine (put_doc W.heap.size A3 c3 ys3 c.o.ti 7 (.inr (.inr rfl)) (by have := HMAY.out.ti; omega) (by omega) w3 HO.out HBW.out).mono ?_
    rintro e w4 ⟨A4, c4, rfl, ho, hm, hn⟩
    have hgl := HG.out.lt
    replace HNG := Lib.hid (fun i hi => (show i ≠ W.heap.size from (hn i hi).elim (fun h => HNG.out i h) (fun h => by omega)))
    have hs1 := HBW.out
    replace HW := Lib.hid (fun i hi => (show W.heap.size ≤ i from (hn i hi).elim (fun h => HW.out i h) (fun h => Nat.le_trans hs1 h)))
    replace HG := Lib.hid (HG.out.kept hm (fun h => HNGo.out _ h rfl))
    replace HBW := Lib.hid (Nat.le_trans HBW.out hm.size)
    replace HB := Lib.hid (Bm HB.out hm (fun i hi => HWo.out i hi))
    obtain ⟨ys4, hys4⟩ : ∃ ys, ys = ys3 ++ Wr.be 7 c.o.ti := ⟨_, rfl⟩
    rw [← hys4] at ho HNG HW ⊢
    replace HO := Lib.hid ho
    have HY4 := Lib.hid hys4
    have hl4 : ys4.length ≤ 40 := by rw [hys4, List.length_append]; simp only [Wr.be_length]; omega
    clear ho hm hn hgl hs1 hys4 x0 x1 x2 x3 x36 x37 x38 lg HNGo HWo
    obtain ⟨x0, x1, xr⟩ := co_op (blk_range HG.out)
    obtain ⟨x2, x3, _, x36, x37, x38⟩ := ox_cells xr HK.out
    simp only [Nat.zero_add, Nat.reduceAdd] at x2 x3 x36 x37 x38
    have lg := HG.out.lt
    have HNGo := HNG
    have HWo := HW
    clear xr
    go_wp2_with fail
    go_ret2
    have e : cpackB c = ys4 := by
      unfold cpackB opB
      rw [if_neg (by have := KK.out; omega), if_neg (by have := KK.out; omega), if_neg (by have := KK.out; omega), HY4.out, HY3.out, HY2.out, HY1.out]
      simp
    exact ⟨A4, c4, by rw [e]; rfl, by rw [e]; exact ⟨HO.out, HB.out⟩⟩
  · by_cases k4 : c.o.kd = 4
    · have h3 : ¬ c.o.kd ≤ 3 := by omega
      have h2 : ¬ c.o.kd ≤ 2 := by omega
      have h4 : (c.o.kd == 4) = true := by simp [k4]
      have h5 : (c.o.kd == 5) = false := by simp [k4]
      have KK := Lib.hid k4
      clear k4 k5
      obtain ⟨x0, x1, xr⟩ := co_op (blk_range HG.out)
      obtain ⟨x2, x3, _, x36, x37, x38⟩ := ox_cells xr HK.out
      simp only [Nat.zero_add, Nat.reduceAdd] at x2 x3 x36 x37 x38
      have lg := HG.out.lt
      have HNGo := HNG
      have HWo := HW
      clear xr
      have hcv := Lib.run_convert_string_bytes (P := Try.prog) w3 9 23 5 c.o.tx Try.underlying9 Try.underlying23 Try.underlying5
      have hbw := bytes_below w3 c.o.tx
      have HBY := Lib.hid hbw
      have HTX := Lib.hid HMAY.out.tx
      have htl := tb_len c.o.tx
      have HRD := Lib.hid (bytes_rd' w3 c.o.tx (by have := HTX.out; omega) (tb c.o.tx).length htl)
      have HTL := Lib.hid htl
      clear hbw htl
      go_wp2_with fail
      obtain ⟨wb, hwb⟩ : ∃ u, u = Lib.bytesWorld w3 5 c.o.tx := ⟨_, rfl⟩
      rw [← hwb] at HBY HRD ⊢
      clear hwb hcv
      replace HG := Lib.hid (HG.out.later HBY.out)
      replace HB := Lib.hid (Bt HB.out HBY.out)
      have HOB := Lib.hid (own_mod HO.out (Mod.of_below HBY.out : Mod (fun _ => False) w3 wb) (fun _ _ h => h) (Nat.le_refl _))
      have HDJ := Lib.hid (show ∀ i, i = w3.heap.size → ¬ (Value.slice A3 ys3.length c3).ownBlock = some i from fun i hi h => by have := own_lt HO.out i h; omega)
      replace HBW := Lib.hid HB.out.size
      have h := octets_doc2 W.heap.size (fun i => i = w3.heap.size) A3 (some ⟨w3.heap.size, 0, none⟩) c3 (grownCap w3 c.o.tx.size 0 5) ys3 (tb c.o.tx) (by have := HTX.out; have := HTL.out; omega) (by omega) wb HOB.out HBW.out HRD.out HDJ.out
      rw [HTL.out] at h
      refine h.mono ?_
      clear h
      rintro e w4 ⟨A4, c4, rfl, ho, hm, hn⟩
      have hgl := HG.out.lt
      replace HNG := Lib.hid (fun i hi => (show i ≠ W.heap.size from (hn i hi).elim (fun h => HNG.out i h) (fun h => by omega)))
      have hs1 := HBW.out
      replace HW := Lib.hid (fun i hi => (show W.heap.size ≤ i from (hn i hi).elim (fun h => HW.out i h) (fun h => Nat.le_trans hs1 h)))
      replace HG := Lib.hid (HG.out.kept hm (fun h => HNGo.out _ h rfl))
      replace HBW := Lib.hid (Nat.le_trans HBW.out hm.size)
      replace HB := Lib.hid (Bm HB.out hm (fun i hi => HWo.out i hi))
      obtain ⟨ys4, hys4⟩ : ∃ ys, ys = ys3 ++ olay (tb c.o.tx) := ⟨_, rfl⟩
      rw [← hys4] at ho HNG HW ⊢
      replace HO := Lib.hid ho
      have HY4 := Lib.hid hys4
      have hl4 : ys4.length ≤ 2000 := by rw [hys4, List.length_append]; rw [olay, List.length_append, Wr.be_length]; have := HTL.out; have := HTX.out; omega
      clear ho hm hn hgl hs1 hys4 x0 x1 x2 x3 x36 x37 x38 lg HNGo HWo
      obtain ⟨x0, x1, xr⟩ := co_op (blk_range HG.out)
      obtain ⟨x2, x3, _, x36, x37, x38⟩ := ox_cells xr HK.out
      simp only [Nat.zero_add, Nat.reduceAdd] at x2 x3 x36 x37 x38
      have lg := HG.out.lt
      have HNGo := HNG
      have HWo := HW
      clear xr
      go_wp2_with fail
      go_ret2
      have e : cpackB c = ys4 := by
        unfold cpackB opB
        rw [if_neg (by have := KK.out; omega), if_neg (by have := KK.out; omega), if_pos KK.out, HY4.out, HY3.out, HY2.out, HY1.out]
        simp
      exact ⟨A4, c4, by rw [e]; rfl, by rw [e]; exact ⟨HO.out, HB.out⟩⟩
    · by_cases k3 : c.o.kd = 3
      · have h3 : c.o.kd ≤ 3 := by omega
        have h2 : ¬ c.o.kd ≤ 2 := by omega
        have h4 : (c.o.kd == 4) = false := by simp [k3]
        have h5 : (c.o.kd == 5) = false := by simp [k3]
        have KK := Lib.hid k3
        clear k3 k4 k5
        obtain ⟨x0, x1, xr⟩ := co_op (blk_range HG.out)
        obtain ⟨x2, x3, _, x36, x37, x38⟩ := ox_cells xr HK.out
        simp only [Nat.zero_add, Nat.reduceAdd] at x2 x3 x36 x37 x38
        have lg := HG.out.lt
        have HNGo := HNG
        have HWo := HW
        clear xr
        go_wp2_with fail
        refine (put_doc W.heap.size A3 c3 ys3 c.o.nd 1 (.inl rfl) (by have := HMAY.out.nd; omega) (by omega) w3 HO.out HBW.out).mono ?_
        rintro e w4 ⟨A4, c4, rfl, ho, hm, hn⟩
        have hgl := HG.out.lt
        replace HNG := Lib.hid (fun i hi => (show i ≠ W.heap.size from (hn i hi).elim (fun h => HNG.out i h) (fun h => by omega)))
        have hs1 := HBW.out
        replace HW := Lib.hid (fun i hi => (show W.heap.size ≤ i from (hn i hi).elim (fun h => HW.out i h) (fun h => Nat.le_trans hs1 h)))
        replace HG := Lib.hid (HG.out.kept hm (fun h => HNGo.out _ h rfl))
        replace HBW := Lib.hid (Nat.le_trans HBW.out hm.size)
        replace HB := Lib.hid (Bm HB.out hm (fun i hi => HWo.out i hi))
        obtain ⟨ys4, hys4⟩ : ∃ ys, ys = ys3 ++ Wr.be 1 c.o.nd := ⟨_, rfl⟩
        rw [← hys4] at ho HNG HW ⊢
        replace HO := Lib.hid ho
        have HY4 := Lib.hid hys4
        have hl4 : ys4.length ≤ 40 := by rw [hys4, List.length_append]; simp only [Wr.be_length]; omega
        clear ho hm hn hgl hs1 hys4 x0 x1 x2 x3 x36 x37 x38 lg HNGo HWo
        obtain ⟨x0, x1, xr⟩ := co_op (blk_range HG.out)
        obtain ⟨x2, x3, _, x36, x37, x38⟩ := ox_cells xr HK.out
        simp only [Nat.zero_add, Nat.reduceAdd] at x2 x3 x36 x37 x38
        have lg := HG.out.lt
        have HNGo := HNG
        have HWo := HW
        clear xr
        go_wp2_with fail
        go_ret2
        have e : cpackB c = ys4 := by
          unfold cpackB opB
          rw [if_neg (by have := KK.out; omega), if_pos KK.out, HY4.out, HY3.out, HY2.out, HY1.out]
          simp
        exact ⟨A4, c4, by rw [e]; rfl, by rw [e]; exact ⟨HO.out, HB.out⟩⟩
      · have hkd := HMAY.out.kd
        have h3 : c.o.kd ≤ 3 := by omega
        have h2 : c.o.kd ≤ 2 := by omega
        have h4 : (c.o.kd == 4) = false := by simpa using k4
        have h5 : (c.o.kd == 5) = false := by simpa using k5
        have KK : Hid (c.o.kd = 1 ∨ c.o.kd = 2) := Lib.hid (by omega)
        clear k3 k4 k5 hkd
        obtain ⟨x0, x1, xr⟩ := co_op (blk_range HG.out)
        obtain ⟨x2, x3, _, x36, x37, x38⟩ := ox_cells xr HK.out
        simp only [Nat.zero_add, Nat.reduceAdd] at x2 x3 x36 x37 x38
        have lg := HG.out.lt
        have HNGo := HNG
        have HWo := HW
        clear xr
        go_wp2_with fail
        refine (put_doc W.heap.size A3 c3 ys3 c.o.nd 1 (.inl rfl) (by have := HMAY.out.nd; omega) (by omega) w3 HO.out HBW.out).mono ?_
        rintro e w4 ⟨A4, c4, rfl, ho, hm, hn⟩
        have hgl := HG.out.lt
        replace HNG := Lib.hid (fun i hi => (show i ≠ W.heap.size from (hn i hi).elim (fun h => HNG.out i h) (fun h => by omega)))
        have hs1 := HBW.out
        replace HW := Lib.hid (fun i hi => (show W.heap.size ≤ i from (hn i hi).elim (fun h => HW.out i h) (fun h => Nat.le_trans hs1 h)))
        replace HG := Lib.hid (HG.out.kept hm (fun h => HNGo.out _ h rfl))
        replace HBW := Lib.hid (Nat.le_trans HBW.out hm.size)
        replace HB := Lib.hid (Bm HB.out hm (fun i hi => HWo.out i hi))
        obtain ⟨ys4, hys4⟩ : ∃ ys, ys = ys3 ++ Wr.be 1 c.o.nd := ⟨_, rfl⟩
        rw [← hys4] at ho HNG HW ⊢
        replace HO := Lib.hid ho
        have HY4 := Lib.hid hys4
        have hl4 : ys4.length ≤ 40 := by rw [hys4, List.length_append]; simp only [Wr.be_length]; omega
        clear ho hm hn hgl hs1 hys4 x0 x1 x2 x3 x36 x37 x38 lg HNGo HWo
        obtain ⟨x0, x1, xr⟩ := co_op (blk_range HG.out)
        obtain ⟨x2, x3, _, x36, x37, x38⟩ := ox_cells xr HK.out
        simp only [Nat.zero_add, Nat.reduceAdd] at x2 x3 x36 x37 x38
        have lg := HG.out.lt
        have HNGo := HNG
        have HWo := HW
        clear xr
        have HKR := Lib.hid (key_rd HG.out HK.out)
        obtain ⟨i0, hi0, hz0, hz1, hz2⟩ := info_parts info5
        have hk32 := HK.out
        rw [hk32] at HKR
        have HKR2 := Lib.hid (show Rd w4 (fun i => i = W.heap.size) 1 (.slice (some ⟨W.heap.size, 4, none⟩) 32 32) 32 (bts c.o.ks) from HKR.out)
        clear hk32
        go_wp2_with (at_builtin; refine wpList_append_rd _ rfl (.tmp 34) (.tmp 37) _ rfl W.heap.size 5 i0 _ 1 1 Try.underlying23 hi0 hz0 hz1 hz2 rfl (by omega) (.slice A4 ys4.length c4) ys4.length (bts ys4) rfl HO.out (fun i => i = W.heap.size) (.slice (some ⟨W.heap.size, 4, none⟩) 32 32) 32 (bts c.o.ks) rfl HKR2.out (bts_one c.o.ks) (by simp only [maxLen]; omega) (by omega) (by have := HBW.out; omega) ?_; intro v2 w5 HA; obtain ⟨A5, c5, hv2⟩ := own_slice HA.own; subst hv2; have hm5 := (Mod.refl (fun i => (Value.slice A4 ys4.length c4).ownBlock = some i) w4).grown HA.grown (fun j hj => .inl hj); have HM5 := Lib.hid hm5; have HG5 := Lib.hid (HG.out.kept hm5 (fun h => HNGo.out _ h rfl)); obtain ⟨z0, z1, zr⟩ := co_op (blk_range HG5.out); obtain ⟨z2, z3, _, z36, z37, z38⟩ := ox_cells zr HK.out; simp only [Nat.zero_add, Nat.reduceAdd] at z2 z3 z36 z37 z38; have lg5 := HG5.out.lt; have HA5 := Lib.hid HA; clear zr HA hm5)
        have hk32 := HK.out
        have ho : w5.ownsRow W.heap.size 5 1 (.slice A5 (ys4 ++ c.o.ks).length c5) (ys4 ++ c.o.ks).length (bts (ys4 ++ c.o.ks)) := by
          have := HA5.out.own
          rw [List.length_append, hk32, bts_app]
          exact this
        have hm := HM5.out
        have hn : ∀ i, (Value.slice A5 (ys4 ++ c.o.ks).length c5).ownBlock = some i → (Value.slice A4 ys4.length c4).ownBlock = some i ∨ w4.heap.size ≤ i := fun i hi => by
          rcases HA5.out.at_ with h | h
          · exact .inl (by rw [← h, ← hi]; exact own_len ..)
          · have e : some i = some w4.heap.size := by rw [← h, ← hi]; exact own_len ..
            injection e with e
            exact .inr (by omega)
        rw [show ys4.length + 32 = (ys4 ++ c.o.ks).length by simp [hk32]]
        clear z0 z1 z2 z3 z36 z37 z38 lg5
        have hgl := HG.out.lt
        replace HNG := Lib.hid (fun i hi => (show i ≠ W.heap.size from (hn i hi).elim (fun h => HNG.out i h) (fun h => by omega)))
        have hs1 := HBW.out
        replace HW := Lib.hid (fun i hi => (show W.heap.size ≤ i from (hn i hi).elim (fun h => HW.out i h) (fun h => Nat.le_trans hs1 h)))
        replace HG := Lib.hid (HG.out.kept hm (fun h => HNGo.out _ h rfl))
        replace HBW := Lib.hid (Nat.le_trans HBW.out hm.size)
        replace HB := Lib.hid (Bm HB.out hm (fun i hi => HWo.out i hi))
        obtain ⟨ys5, hys5⟩ : ∃ ys, ys = ys4 ++ c.o.ks := ⟨_, rfl⟩
        rw [← hys5] at ho HNG HW ⊢
        replace HO := Lib.hid ho
        have HY5 := Lib.hid hys5
        have hl5 : ys5.length ≤ 80 := by rw [hys5, List.length_append]; omega
        clear ho hm hn hgl hs1 hys5 x0 x1 x2 x3 x36 x37 x38 lg HNGo HWo
        obtain ⟨x0, x1, xr⟩ := co_op (blk_range HG.out)
        obtain ⟨x2, x3, _, x36, x37, x38⟩ := ox_cells xr HK.out
        simp only [Nat.zero_add, Nat.reduceAdd] at x2 x3 x36 x37 x38
        have lg := HG.out.lt
        have HNGo := HNG
        have HWo := HW
        clear xr
        refine (put_doc W.heap.size A5 c5 ys5 c.o.ex 7 (.inr (.inr rfl)) (by have := HMAY.out.ex; omega) (by omega) w5 HO.out HBW.out).mono ?_
        rintro e w6 ⟨A6, c6, rfl, ho, hm, hn⟩
        have hgl := HG.out.lt
        replace HNG := Lib.hid (fun i hi => (show i ≠ W.heap.size from (hn i hi).elim (fun h => HNG.out i h) (fun h => by omega)))
        have hs1 := HBW.out
        replace HW := Lib.hid (fun i hi => (show W.heap.size ≤ i from (hn i hi).elim (fun h => HW.out i h) (fun h => Nat.le_trans hs1 h)))
        replace HG := Lib.hid (HG.out.kept hm (fun h => HNGo.out _ h rfl))
        replace HBW := Lib.hid (Nat.le_trans HBW.out hm.size)
        replace HB := Lib.hid (Bm HB.out hm (fun i hi => HWo.out i hi))
        obtain ⟨ys6, hys6⟩ : ∃ ys, ys = ys5 ++ Wr.be 7 c.o.ex := ⟨_, rfl⟩
        rw [← hys6] at ho HNG HW ⊢
        replace HO := Lib.hid ho
        have HY6 := Lib.hid hys6
        have hl6 : ys6.length ≤ 100 := by rw [hys6, List.length_append]; simp only [Wr.be_length]; omega
        clear ho hm hn hgl hs1 hys6 x0 x1 x2 x3 x36 x37 x38 lg HNGo HWo
        obtain ⟨x0, x1, xr⟩ := co_op (blk_range HG.out)
        obtain ⟨x2, x3, _, x36, x37, x38⟩ := ox_cells xr HK.out
        simp only [Nat.zero_add, Nat.reduceAdd] at x2 x3 x36 x37 x38
        have lg := HG.out.lt
        have HNGo := HNG
        have HWo := HW
        clear xr
        go_wp2_with fail
        go_ret2
        have e : cpackB c = ys6 := by
          unfold cpackB opB
          rw [if_pos KK.out, HY6.out, HY5.out, HY4.out, HY3.out, HY2.out, HY1.out]
          simp
        exact ⟨A6, c6, by rw [e]; rfl, by rw [e]; exact ⟨HO.out, HB.out⟩⟩
end

section
set_option maxHeartbeats 4000000 in
theorem postBytes_at (W : World) (co : Co) (h32 : co.o.ks.length = 32) :
    Calls Try.prog 6 #[co.v] W fun e w' => e = .returned (.bool true) ∧ Below W.heap.size W w' := by
  have HK32 := Lib.hid h32
  have HG0 := Lib.hid (Blk.new W 36 co.L.toArray)
  cases hc : cmB co
  · have HC := Lib.hid hc
    clear hc h32
    go_enter Try.func6, Try.ntmps6
    go_wp2_with (first | (refine step_load36 rfl (.tmp 1) rfl W.heap.size rfl co HK32.out (blk_range HG0.out) ?_) | fail)
    obtain ⟨wg, hwg⟩ : ∃ u, u = W.alloc (.cells co.L.toArray 36) := ⟨_, rfl⟩
    have hk : Below W.heap.size W wg := by rw [hwg]; exact Ba (B0 W) _
    have HB := Lib.hid hk
    rw [← hwg] at HG0 ⊢
    clear hwg hk
    refine (cmd_bad co wg HK32.out HC.out).mono ?_
    rintro e w2 ⟨rfl, hk⟩
    replace HG0 := Lib.hid (HG0.out.later hk)
    replace HB := Lib.hid (Bt HB.out hk)
    clear hk
    go_wp2_with (first | (refine step_load36 rfl (.tmp 1) rfl W.heap.size rfl co HK32.out (blk_range HG0.out) ?_) | fail)
    refine (refbytes_bad co w2 HK32.out HC.out).mono ?_
    rintro e w3 ⟨rfl, hk⟩
    replace HB := Lib.hid (Bt HB.out hk)
    clear hk
    go_wp2_with fail
    refine (eq_bytes (fun _ => False) (fun _ => False) _ _ [] [] w3 (Rd.nil _ _ _) (Rd.nil _ _ _)).mono ?_
    rintro e w6 ⟨rfl, nd, hw6⟩
    rw [show eqB [] [] = true by simp [eqB]]
    have hk : Below w3.heap.size w3 w6 := by rw [hw6]; exact BdN (B0 w3) nd
    replace HB := Lib.hid (Bt HB.out hk)
    clear hk hw6
    go_wp2_with fail
    go_ret
    exact ⟨rfl, HB.out⟩
  · have HC := Lib.hid hc
    have HPK := Lib.hid (cpackP_app (cmay_of hc))
    clear hc h32
    go_enter Try.func6, Try.ntmps6
    go_wp2_with (first | (refine step_load36 rfl (.tmp 1) rfl W.heap.size rfl co HK32.out (blk_range HG0.out) ?_) | fail)
    obtain ⟨wg, hwg⟩ : ∃ u, u = W.alloc (.cells co.L.toArray 36) := ⟨_, rfl⟩
    have hk : Below W.heap.size W wg := by rw [hwg]; exact Ba (B0 W) _
    have HB := Lib.hid hk
    rw [← hwg] at HG0 ⊢
    clear hwg hk
    refine (cmd_ok co wg HK32.out HC.out).mono ?_
    rw [HPK.out]
    rintro e w2 ⟨A2, c2, rfl, hf⟩
    replace HG0 := Lib.hid (HG0.out.later hf.kept)
    replace HB := Lib.hid (Bt HB.out hf.kept)
    have HF := Lib.hid hf.rd
    clear hf
    go_wp2_with (first | (refine step_load36 rfl (.tmp 1) rfl W.heap.size rfl co HK32.out (blk_range HG0.out) ?_) | fail)
    refine (refbytes_ok co w2 HK32.out HC.out).mono ?_
    rintro e w3 ⟨A3, c3, rfl, ho, hk⟩
    replace HF := Lib.hid (HF.out.below hk (fun _ h => h))
    replace HB := Lib.hid (Bt HB.out hk)
    have HF3 := Lib.hid (Rd.of_own ho)
    clear hk ho
    go_wp2_with fail
    refine (eq_bytes _ _ _ _ _ _ w3 HF.out HF3.out).mono ?_
    rintro e w4 ⟨rfl, nd, hw4⟩
    rw [show eqB (cpackB co) (cpackB co) = true by simp [eqB]]
    have hk : Below w3.heap.size w3 w4 := by rw [hw4]; exact BdN (B0 w3) nd
    replace HB := Lib.hid (Bt HB.out hk)
    clear hk hw4
    go_wp2_with fail
    go_ret
    exact ⟨rfl, HB.out⟩
theorem postBytes_walk {H : Type} {enc : TypeId × Value → H} (W : World) {base : Nat} {sp : Nat → Bool} {held : Bool} {v : Value} {d : DataW H} {pl : List MemPlace} (hv : Value.okWide Try.prog W .any base 36 v) (ht : DataW.Trod enc Try.prog W 0 sp held 36 v d pl)
    (hz : ∀ n ∈ d.weights Try.prog 36, n ≤ reachBytes) :
    Calls Try.prog 6 #[v] W fun e w' => e = .returned (.bool true) ∧ Below W.heap.size W w' := by
  obtain ⟨co, rfl, hk, _⟩ := open_cmd hv ht
  exact postBytes_at W co hk
end
end Go.Proofs.Ytnphnaggamfoiaa
