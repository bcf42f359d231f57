/- M1, M2, M3 in one text. -/
import Derived.Test.YtnphnaggamfoiaaQC
import Derived.Test.YtnphnaggamfoiaaL5
import Derived.ProofKit
import Derived.OpenShut
import Derived.Test.YtnphnaggamfoiaaQS
namespace Go.Proofs.Ytnphnaggamfoiaa
open Go.RowKit
set_option maxRecDepth 20000
set_option linter.unusedVariables false
set_option linter.unusedSimpArgs false
section
theorem ba_ext {a b : ByteArray} (h : a.toList = b.toList) : a = b := by
  rw [ByteArray.toList_eq, ByteArray.toList_eq] at h
  obtain ⟨⟨x⟩⟩ := a
  obtain ⟨⟨y⟩⟩ := b
  simpa using h
theorem oxB_eq {x y : Ox} (h : oxB x y = true) : x = y := by
  simp only [oxB, Bool.and_eq_true, beq_iff_eq] at h
  obtain ⟨h1, h2, h3, h4, h5, h6⟩ := h
  obtain ⟨a1, a2, a3, a4, a5, a6⟩ := x
  obtain ⟨b1, b2, b3, b4, b5, b6⟩ := y
  simp only at h1 h2 h3 h4 h5 h6
  have := ba_ext h5
  subst h1 h2 h3 h4 h6 this
  rfl
theorem oxB_refl (x : Ox) : oxB x x = true := by simp [oxB]
def opB (o : Ox) : List Int :=
  if o.kd = 1 ∨ o.kd = 2 then Wr.be 1 o.nd ++ (o.ks ++ Wr.be 7 o.ex) else if o.kd = 3 then Wr.be 1 o.nd else if o.kd = 4 then olay (tb o.tx) else Wr.be 7 o.ti
def cpackB (c : Co) : List Int := Wr.be 1 c.s ++ (Wr.be 7 c.q ++ (Wr.be 1 c.o.kd ++ opB c.o))
theorem cpackP_app {c : Co} (h : CMay c) : cpackP c = cpackB c := by
  have hs := h.s; have hq := h.q; have hkd := h.kd; have hnd := h.nd; have hex := h.ex; have hti := h.ti; have htx := h.tx
  have e1 : ∀ (v : Int) (xs : List Int), 0 ≤ v → v < 256 → Wr.putL xs v 1 = xs ++ Wr.be 1 v := fun v xs h0 h1 => putL_app (n := 1) (.inl rfl) h0 (by rw [p1v]; exact h1) xs
  have e7 : ∀ (v : Int) (xs : List Int), 0 ≤ v → v ≤ 9007199254740991 → Wr.putL xs v 7 = xs ++ Wr.be 7 v := fun v xs h0 h1 => putL_app (n := 7) (.inr (.inr rfl)) h0 (by rw [p7v]; omega) xs
  have eh : cheadL c = Wr.be 1 c.s ++ (Wr.be 7 c.q ++ Wr.be 1 c.o.kd) := by
    unfold cheadL
    rw [e1 _ _ (by omega) (by omega), e7 _ _ (by omega) (by omega), e1 _ _ (by omega) (by omega)]
    simp
  unfold cpackP cpackB opP opB
  rw [eh]
  by_cases k12 : c.o.kd = 1 ∨ c.o.kd = 2
  · rw [if_pos k12, if_pos k12, e1 _ _ (by omega) (by omega), e7 _ _ (by omega) (by omega)]; simp
  · rw [if_neg k12, if_neg k12]
    by_cases k3 : c.o.kd = 3
    · rw [if_pos k3, if_pos k3, e1 _ _ (by omega) (by omega)]; simp
    · rw [if_neg k3, if_neg k3]
      by_cases k4 : c.o.kd = 4
      · rw [if_pos k4, if_pos k4, octL_app (by rw [tb_len]; omega)]; simp
      · rw [if_neg k4, if_neg k4, e7 _ _ (by omega) (by omega)]; simp
theorem opB_byt {c : Co} (hb : Byt c.o.ks) : Byt (opB c.o) := by
  unfold opB
  split
  · exact Byt.append (Wr.be_byt 1 _) (Byt.append hb (Wr.be_byt 7 _))
  · split
    · exact Wr.be_byt 1 _
    · split
      · exact olay_byt (tb_byt _)
      · exact Wr.be_byt 7 _
theorem cpack_byt {c : Co} (hb : Byt c.o.ks) : Byt (cpackB c) := Byt.append (Wr.be_byt 1 _) (Byt.append (Wr.be_byt 7 _) (Byt.append (Wr.be_byt 1 _) (opB_byt hb)))
theorem St.sk_cut {s : St} {a r : List Int} {k : Nat} (hs : s = ⟨(a ++ r).take k, 0⟩) : Cut s (s.sk a.length) a r k (s.some a.length = a) := by
  unfold Cut St.sk St.some
  subst hs
  rw [if_pos rfl, if_pos rfl]
  simp only
  by_cases hj : k < a.length
  · refine .inl ⟨hj, ?_⟩
    unfold Wr.bytE
    rw [if_neg (by omega), if_pos (by simp; omega)]
  · have hE : Wr.bytE ((a ++ r).take k) (a.length : Int) = 0 := by
      unfold Wr.bytE
      rw [if_neg (by omega), if_neg (by simp; omega)]
    refine .inr ⟨by omega, ?_, ?_⟩
    · unfold Wr.bytL
      rw [hE, if_pos rfl, Int.toNat_natCast, List.drop_take, List.drop_left' rfl]
    · unfold Wr.bytV
      rw [if_pos hE, Int.toNat_natCast, List.take_take, Nat.min_eq_left (by omega), List.take_left' rfl]
theorem ropS_bad {s : St} (h : s.e ≠ 0) (kd : Int) : (ropS kd s).e = s.e := by
  unfold ropS
  split
  · rw [St.nx_bad h, St.sk_bad h, St.nx_bad h]
  · split
    · rw [St.nx_bad h]
    · split
      · rw [St.ox_bad h]
      · split
        · rw [St.nx_bad h]
        · rfl
theorem op_cut {o : Ox} (hk : 1 ≤ o.kd ∧ o.kd ≤ 5) (hown : o = o.own) (h32 : o.ks.length = 32) (hb : Byt o.ks) (hnd : 0 ≤ o.nd ∧ o.nd ≤ 255) (hex : 0 ≤ o.ex ∧ o.ex ≤ 9007199254740991) (hti : 0 ≤ o.ti ∧ o.ti ≤ 9007199254740991) (htx : o.tx.size ≤ 1024)
    {s : St} {r : List Int} (hr : Byt r) {k : Nat} (hs : s = ⟨(opB o ++ r).take k, 0⟩) : Cut s (ropS o.kd s) (opB o) r k (rop o.kd s = o) := by
  have q1 : o.nd < Wr.p256 1 := by rw [p1v]; omega
  have q7 : o.ex < Wr.p256 7 := by rw [p7v]; omega
  have q8 : o.ti < Wr.p256 7 := by rw [p7v]; omega
  by_cases k12 : o.kd = 1 ∨ o.kd = 2
  · have eb : opB o = Wr.be 1 o.nd ++ (o.ks ++ Wr.be 7 o.ex) := by unfold opB; rw [if_pos k12]
    have es : ropS o.kd s = ((s.nx 1).sk 32).nx 7 := by unfold ropS; rw [if_pos k12]
    have er : rop o.kd s = ⟨o.kd, s.num 1, keyZ ((s.nx 1).some 32), ((s.nx 1).sk 32).num 7, ByteArray.empty, 0⟩ := by unfold rop; rw [if_pos k12]
    have eo : o = ⟨o.kd, o.nd, o.ks, o.ex, ByteArray.empty, 0⟩ := by conv => lhs; rw [hown]; unfold Ox.own; rw [if_pos k12]
    rw [eb] at hs ⊢
    rw [es, er]
    have c1 := St.nx_cut (s := s) (n := 1) (.inl rfl) hnd.1 q1 (Byt.append (Byt.append hb (Wr.be_byt 7 o.ex)) hr) (k := k) (by rw [hs]; simp)
    have c2 := Cut.trans c1 (s2 := ((s.nx 1).sk 32).nx 7) (fun hne => by rw [St.sk_bad hne, St.nx_bad hne]) (R := (s.nx 1).some 32 = o.ks ∧ ((s.nx 1).sk 32).num 7 = o.ex) (fun _ he => by
      have c3 : Cut (s.nx 1) ((s.nx 1).sk 32) o.ks (Wr.be 7 o.ex ++ r) (k - (Wr.be 1 o.nd).length) ((s.nx 1).some 32 = o.ks) := by
        have := St.sk_cut (s := s.nx 1) (a := o.ks) (r := Wr.be 7 o.ex ++ r) (k := k - (Wr.be 1 o.nd).length) (by rw [he]; simp)
        rw [h32] at this
        exact this
      exact Cut.trans c3 (fun hne => by rw [St.nx_bad hne]) (fun _ he2 => St.nx_cut (n := 7) (.inr (.inr rfl)) hex.1 q7 hr (by rw [he2, h32])))
    refine c2.mono (fun q => ?_)
    rw [q.1, q.2.1, q.2.2]
    have : keyZ o.ks = o.ks := by unfold keyZ; rw [if_neg (by intro h0; rw [h0] at h32; simp at h32)]
    rw [this]
    exact eo.symm
  · by_cases k3 : o.kd = 3
    · have eb : opB o = Wr.be 1 o.nd := by unfold opB; rw [if_neg k12, if_pos k3]
      have es : ropS o.kd s = s.nx 1 := by unfold ropS; rw [if_neg k12, if_pos k3]
      have er : rop o.kd s = ⟨o.kd, s.num 1, z32, 0, ByteArray.empty, 0⟩ := by unfold rop; rw [if_neg k12, if_pos k3]
      have eo : o = ⟨o.kd, o.nd, z32, 0, ByteArray.empty, 0⟩ := by conv => lhs; rw [hown]; unfold Ox.own; rw [if_neg k12, if_pos k3]
      rw [eb] at hs ⊢
      rw [es, er]
      refine (St.nx_cut (n := 1) (.inl rfl) hnd.1 q1 hr hs).mono (fun q => ?_)
      rw [q]; exact eo.symm
    · by_cases k4 : o.kd = 4
      · have eb : opB o = olay (tb o.tx) := by unfold opB; rw [if_neg k12, if_neg k3, if_pos k4]
        have es : ropS o.kd s = s.ox := by unfold ropS; rw [if_neg k12, if_neg k3, if_pos k4]
        have er : rop o.kd s = ⟨o.kd, 0, z32, 0, bs s.oct, 0⟩ := by unfold rop; rw [if_neg k12, if_neg k3, if_pos k4]
        have eo : o = ⟨o.kd, 0, z32, 0, o.tx, 0⟩ := by conv => lhs; rw [hown]; unfold Ox.own; rw [if_neg k12, if_neg k3, if_pos k4]
        rw [eb] at hs ⊢
        rw [es, er]
        refine (St.ox_cut (by rw [tb_len]; omega) (tb_byt _) hr hs).mono (fun q => ?_)
        rw [q, bs_tb]; exact eo.symm
      · have k5 : o.kd = 5 := by omega
        have eb : opB o = Wr.be 7 o.ti := by unfold opB; rw [if_neg k12, if_neg k3, if_neg k4]
        have es : ropS o.kd s = s.nx 7 := by unfold ropS; rw [if_neg k12, if_neg k3, if_neg k4, if_pos k5]
        have er : rop o.kd s = ⟨o.kd, 0, z32, 0, ByteArray.empty, s.num 7⟩ := by unfold rop; rw [if_neg k12, if_neg k3, if_neg k4, if_pos k5]
        have eo : o = ⟨o.kd, 0, z32, 0, ByteArray.empty, o.ti⟩ := by conv => lhs; rw [hown]; unfold Ox.own; rw [if_neg k12, if_neg k3, if_neg k4, if_pos k5]
        rw [eb] at hs ⊢
        rw [es, er]
        refine (St.nx_cut (n := 7) (.inr (.inr rfl)) hti.1 q8 hr hs).mono (fun q => ?_)
        rw [q]; exact eo.symm
/-- A command's bytes, cut behind k, with more behind them. -/
theorem cmd_cut {c : Co} (hc : cmB c = true) (h32 : c.o.ks.length = 32) (hb : Byt c.o.ks) {r : List Int} (hr : Byt r) (k : Nat) {ys : List Int} (hy : ys = (cpackB c ++ r).take k) :
    (k < (cpackB c).length ∧ (vZ ys).e = 3) ∨ ((cpackB c).length ≤ k ∧ (r.take (k - (cpackB c).length) ≠ [] → (vZ ys).e = 4) ∧ (r.take (k - (cpackB c).length) = [] → (vZ ys).e = 0 ∧ vC ys = c)) := by
  have hm := cmay_of hc
  have hs := hm.s; have hq := hm.q; have hkd := hm.kd
  have hown := oxB_eq hm.own
  have b3 := Byt.append (opB_byt (c := c) hb) hr
  have b2 := Byt.append (Wr.be_byt 1 c.o.kd) b3
  have b1 := Byt.append (Wr.be_byt 7 c.q) b2
  have c1 := St.nx_cut (s := ⟨ys, 0⟩) (n := 1) (.inl rfl) (v := c.s) (by omega) (by rw [p1v]; omega) b1 (k := k) (by rw [hy]; simp [cpackB])
  have cB := Cut.trans (b := Wr.be 7 c.q ++ (Wr.be 1 c.o.kd ++ opB c.o)) (r := r) (s2 := vB ys) (by simpa using c1) (fun hne => by
      have hne' : (v1 ys).e ≠ 0 := hne
      have hn2 : v2 ys = v1 ys := by unfold v2; rw [St.nx_bad hne']
      have hA : vA ys = v1 ys := by unfold vA; rw [hn2, St.nx_bad hne', St.fail_bad hne']
      unfold vB
      rw [ropS_bad (by rw [hA]; exact hne'), hA]
      rfl) (R := (⟨ys, 0⟩ : St).num 1 = c.s → vC ys = c) (fun q1 he => by
    have d1 := St.nx_cut (s := v1 ys) (n := 7) (.inr (.inr rfl)) (v := c.q) (by omega) (by rw [p7v]; omega) b2 (k := k - (Wr.be 1 c.s).length) (by rw [show v1 ys = (⟨ys, 0⟩ : St).nx 1 from rfl, he]; simp)
    refine (Cut.trans (b := Wr.be 1 c.o.kd ++ opB c.o) (r := r) (s2 := vB ys) (by simpa [v1] using d1) (fun hne => by
      have hne' : (v2 ys).e ≠ 0 := hne
      have hA : vA ys = v2 ys := by unfold vA; rw [St.nx_bad hne', St.fail_bad hne']
      unfold vB
      rw [ropS_bad (by rw [hA]; exact hne'), hA]
      rfl) (R := (v1 ys).num 7 = c.q → (⟨ys, 0⟩ : St).num 1 = c.s → vC ys = c) (fun q2 he1 => ?_)).mono (fun q => q.2 q.1)
    have d2 := St.nx_cut (s := v2 ys) (n := 1) (.inl rfl) (v := c.o.kd) (by omega) (by rw [p1v]; omega) b3 (k := k - (Wr.be 1 c.s).length - (Wr.be 7 c.q).length) (by rw [show v2 ys = (v1 ys).nx 7 from rfl, show (v1 ys).nx 7 = _ from he1]; simp)
    have d3 : Cut (v2 ys) (vA ys) (Wr.be 1 c.o.kd) (opB c.o ++ r) (k - (Wr.be 1 c.s).length - (Wr.be 7 c.q).length) (vKd ys = c.o.kd) := by
      rcases d2 with ⟨g, he⟩ | ⟨g, he, hq⟩
      · exact .inl ⟨g, by unfold vA; rw [St.fail_bad (by rw [he]; decide)]; exact he⟩
      · refine .inr ⟨g, ?_, hq⟩
        have : wiB (vKd ys) 1 5 = true := by rw [show vKd ys = c.o.kd from hq]; exact wiB_iff.2 hkd
        unfold vA
        rw [this]
        exact he
    refine (Cut.trans (b := opB c.o) (r := r) (s2 := vB ys) d3 (fun hne => by unfold vB; rw [ropS_bad hne]) (R := vKd ys = c.o.kd → (v1 ys).num 7 = c.q → (⟨ys, 0⟩ : St).num 1 = c.s → vC ys = c) (fun q3 he3 => ?_)).mono (fun q => q.2 q.1)
    have d4 := op_cut hkd hown h32 hb hm.nd hm.ex hm.ti hm.tx hr (s := vA ys) (k := k - (Wr.be 1 c.s).length - (Wr.be 7 c.q).length - (Wr.be 1 c.o.kd).length) he3
    unfold vB
    rw [q3]
    refine d4.mono (fun q f3 f2 f1 => ?_)
    unfold vC
    rw [f1, f2, q3, q])
  have el : (Wr.be 1 c.s ++ (Wr.be 7 c.q ++ (Wr.be 1 c.o.kd ++ opB c.o))) = cpackB c := rfl
  rw [el] at cB
  rcases cB with ⟨g, he⟩ | ⟨g, he, hq1, hq⟩
  · exact .inl ⟨g, by unfold vZ; rw [St.fail_bad (by rw [he]; decide)]; exact he⟩
  · have hvc := hq hq1
    refine .inr ⟨g, fun hn => ?_, fun hn => ?_⟩
    · unfold vZ
      have : decide (0 < ((vB ys).l.length : Int)) = true := by
        rw [he]
        have := List.length_pos_iff.2 hn
        exact decide_eq_true (by show (0 : Int) < ((r.take (k - (cpackB c).length)).length : Int); omega)
      rw [this, Bool.true_or]
      unfold St.fail
      rw [if_pos rfl, he, if_pos rfl]
    · refine ⟨?_, hvc⟩
      unfold vZ
      have h1 : decide (0 < ((vB ys).l.length : Int)) = false := by rw [he, hn]; rfl
      rw [h1, hvc, hc]
      show (vB ys).e = 0
      rw [he]
theorem oct_byt {s : St} (h : s.Ok) : Byt s.oct := by
  have h2 : Byt (s.nx 2).l := h.nx 2
  unfold St.oct St.some
  split
  · unfold Wr.bytV
    split
    · exact h2.take _
    · intro x hx; simp at hx
  · intro x hx; simp at hx
theorem op_inv {kd : Int} (hk : 1 ≤ kd ∧ kd ≤ 5) {s : St} (hb : s.Ok) (h : (ropS kd s).e = 0) : s.e = 0 ∧ s.l = opB (rop kd s) ++ (ropS kd s).l := by
  by_cases k12 : kd = 1 ∨ kd = 2
  · have es : ropS kd s = ((s.nx 1).sk 32).nx 7 := by unfold ropS; rw [if_pos k12]
    have er : rop kd s = ⟨kd, s.num 1, keyZ ((s.nx 1).some 32), ((s.nx 1).sk 32).num 7, ByteArray.empty, 0⟩ := by unfold rop; rw [if_pos k12]
    rw [es] at h ⊢
    rw [er]
    have hok2 : ((s.nx 1).sk 32).Ok := (hb.nx 1).sk _
    have h1 := St.nx_ok h
    have h2 := St.sk_ok h1
    obtain ⟨a3, _⟩ := St.nx_inv (n := 7) (.inr (.inr rfl)) hok2 h
    obtain ⟨a2, a2l⟩ := St.sk_inv (n := 32) (by decide) h1
    obtain ⟨a1, _⟩ := St.nx_inv (n := 1) (.inl rfl) hb h2
    have hkz : keyZ ((s.nx 1).some 32) = (s.nx 1).some 32 := by unfold keyZ; rw [if_neg (by intro h0; rw [h0] at a2l; simp at a2l)]
    refine ⟨St.nx_ok h2, ?_⟩
    have eb : opB ⟨kd, s.num 1, keyZ ((s.nx 1).some 32), ((s.nx 1).sk 32).num 7, ByteArray.empty, 0⟩ = Wr.be 1 (s.num 1) ++ ((s.nx 1).some 32 ++ Wr.be 7 (((s.nx 1).sk 32).num 7)) := by unfold opB; rw [if_pos k12, hkz]
    rw [eb]
    simp only [List.append_assoc]
    rw [← a3, ← a2]
    exact a1
  · by_cases k3 : kd = 3
    · subst k3
      obtain ⟨a1, _⟩ := St.nx_inv (n := 1) (.inl rfl) hb h
      exact ⟨St.nx_ok h, a1⟩
    · by_cases k4 : kd = 4
      · subst k4
        obtain ⟨a1, a2⟩ := St.ox_inv hb h
        refine ⟨a1, ?_⟩
        have eb : opB (rop 4 s) = olay (tb (bs s.oct)) := rfl
        rw [eb, tb_bs (oct_byt hb)]
        exact a2
      · have k5 : kd = 5 := by omega
        subst k5
        obtain ⟨a1, _⟩ := St.nx_inv (n := 7) (.inr (.inr rfl)) hb h
        exact ⟨St.nx_ok h, a1⟩
/-- Bytes that are a command. -/
theorem cmd_inv {ys : List Int} (hy : Byt ys) (h : (vZ ys).e = 0) : cmB (vC ys) = true ∧ ys = cpackB (vC ys) := by
  have hok : St.Ok ⟨ys, 0⟩ := hy
  obtain ⟨h1, h2, h3⟩ := St.fail_ok (by decide) h
  simp only [Bool.or_eq_false_iff, decide_eq_false_iff_not, Bool.not_eq_false'] at h2
  have ok1 : (v1 ys).Ok := hok.nx 1
  have ok2 : (v2 ys).Ok := ok1.nx 7
  have okA : (vA ys).Ok := (ok2.nx 1).fail _ _
  have hA : (vA ys).e = 0 := by
    by_cases hh : (vA ys).e = 0
    · exact hh
    · rw [show vB ys = ropS (vKd ys) (vA ys) from rfl, ropS_bad hh] at h1; exact absurd h1 hh
  obtain ⟨i3, hkd, eA⟩ := St.fail_ok (by decide) hA
  have hkd' : wiB (vKd ys) 1 5 = true := by simpa using hkd
  have i2 := St.nx_ok i3
  have i1 := St.nx_ok i2
  obtain ⟨_, b2⟩ := op_inv (wiB_iff.1 hkd') okA h1
  obtain ⟨c3, _⟩ := St.nx_inv (n := 1) (.inl rfl) ok2 i3
  obtain ⟨c2, _⟩ := St.nx_inv (n := 7) (.inr (.inr rfl)) ok1 i2
  obtain ⟨c1, _⟩ := St.nx_inv (s := ⟨ys, 0⟩) (n := 1) (.inl rfl) hok i1
  refine ⟨h2.2, ?_⟩
  have hl : (ropS (vKd ys) (vA ys)).l = [] := by
    have := h2.1
    rw [show vB ys = ropS (vKd ys) (vA ys) from rfl] at this
    exact List.eq_nil_of_length_eq_zero (by omega)
  rw [hl, List.append_nil] at b2
  have hk : (vC ys).o.kd = vKd ys := by
    show (rop (vKd ys) (vA ys)).kd = vKd ys
    unfold rop
    split
    · rfl
    · split
      · rfl
      · split
        · rfl
        · split
          · rfl
          · rfl
  unfold cpackB
  rw [hk, show (vC ys).o = rop (vKd ys) (vA ys) from rfl, ← b2, show (vA ys).l = ((v2 ys).nx 1).l by rw [show vA ys = (v2 ys).nx 1 from eA], show vKd ys = (v2 ys).num 1 from rfl, ← c3, show (vC ys).q = (v1 ys).num 7 from rfl, show (v2 ys).l = ((v1 ys).nx 7).l from rfl, ← c2]
  exact c1
end

section
theorem key_cells : Try.prog.cellsOf 32 = 32 := by kernel_rfl
theorem op_cells : Try.prog.cellsOf 34 = 37 := by kernel_rfl
theorem cmd_cells : Try.prog.cellsOf 36 = 39 := by kernel_rfl
theorem byte_cells : Try.prog.cellsOf 5 = 1 := by kernel_rfl
theorem str_cells : Try.prog.cellsOf 9 = 1 := by kernel_rfl
theorem open_key {H : Type} {enc : TypeId × Value → H} {W : World} {sp : Nat → Bool} {held : Bool} {fuel : Nat} {cs : List Value} {x : DataW H × List MemPlace} (hf : DataW.trod enc Try.prog W 0 sp held fuel 32 cs = some x) :
    ∃ ks : List Int, cs = bts ks ∧ ks.length = 32 ∧ Byt ks := by
  obtain ⟨xs, m, _, _, hl, hxl, hel⟩ := DataW.trod_array Try.underlying32 hf
  rw [key_cells] at hl
  have each : ∀ i, i < 32 → ∃ b : Int, cs[i]? = some (.int .u8 b) ∧ 0 ≤ b ∧ b < 256 := by
    intro i hi
    have h := hel i hi
    rw [byte_cells, Nat.mul_one] at h
    have hx : ∃ y, xs[i]? = some y := ⟨_, List.getElem?_eq_getElem (by omega)⟩
    obtain ⟨y, hy⟩ := hx
    rw [hy] at h
    obtain ⟨b, e, _, wf⟩ := DataW.trod_int Try.underlying5 h
    have hb := u8_wf wf
    refine ⟨b, ?_, hb.1, hb.2⟩
    have e2 : (cs.drop i).take 1 = [cs[i]'(by omega)] := by
      rw [List.drop_eq_getElem_cons (by omega)]
      rfl
    rw [e2] at e
    injection e with e
    rw [List.getElem?_eq_getElem (by omega), e]
  obtain ⟨ks, hkl, hk⟩ := list_of (fun i (b : Int) => cs[i]? = some (.int .u8 b) ∧ 0 ≤ b ∧ b < 256) 32 each
  refine ⟨ks, ?_, hkl, ?_⟩
  · apply List.ext_getElem?
    intro i
    by_cases hi : i < 32
    · rw [(hk i (by omega)).1, bts_getElem? ks i (by omega)]
    · rw [List.getElem?_eq_none (by omega), List.getElem?_eq_none (by rw [bts_length]; omega)]
  · intro x hx
    obtain ⟨i, hi, rfl⟩ := List.getElem_of_mem hx
    exact (hk i hi).2
theorem open_op {H : Type} {enc : TypeId × Value → H} {W : World} {sp : Nat → Bool} {held : Bool} {fuel : Nat} {cs : List Value} {x : DataW H × List MemPlace} (hf : DataW.trod enc Try.prog W 0 sp held fuel 34 cs = some x) :
    ∃ o : Ox, cs = o.L ∧ o.ks.length = 32 ∧ Byt o.ks := by
  obtain ⟨xs, m, _, _, hl, hxl, hfs⟩ := DataW.trod_struct Try.underlying34 hf
  rw [op_cells] at hl
  have g0 := hfs 0 _ rfl
  have g1 := hfs 1 _ rfl
  have g2 := hfs 2 _ rfl
  have g3 := hfs 3 _ rfl
  have g4 := hfs 4 _ rfl
  have g5 := hfs 5 _ rfl
  match xs, hxl with
  | [y0, y1, y2, y3, y4, y5], _ =>
    replace g0 : DataW.trod enc Try.prog W 0 sp held m 3 ((cs.drop 0).take (Try.prog.cellsOf 3)) = some y0 := g0
    replace g1 : DataW.trod enc Try.prog W 0 sp held m 3 ((cs.drop 1).take (Try.prog.cellsOf 3)) = some y1 := g1
    replace g2 : DataW.trod enc Try.prog W 0 sp held m 32 ((cs.drop 2).take (Try.prog.cellsOf 32)) = some y2 := g2
    replace g3 : DataW.trod enc Try.prog W 0 sp held m 3 ((cs.drop 34).take (Try.prog.cellsOf 3)) = some y3 := g3
    replace g4 : DataW.trod enc Try.prog W 0 sp held m 9 ((cs.drop 35).take (Try.prog.cellsOf 9)) = some y4 := g4
    replace g5 : DataW.trod enc Try.prog W 0 sp held m 3 ((cs.drop 36).take (Try.prog.cellsOf 3)) = some y5 := g5
    rw [cint_cells] at g0 g1 g3 g5
    rw [key_cells] at g2
    rw [str_cells] at g4
    obtain ⟨a0, e0, _, w0⟩ := DataW.trod_int Try.underlying3 g0
    obtain ⟨a1, e1, _, w1⟩ := DataW.trod_int Try.underlying3 g1
    obtain ⟨ks, e2, hk, hb⟩ := open_key g2
    obtain ⟨a3, e3, _, w3⟩ := DataW.trod_int Try.underlying3 g3
    obtain ⟨s4, e4, _⟩ := DataW.trod_string Try.underlying9 g4
    obtain ⟨a5, e5, _, w5⟩ := DataW.trod_int Try.underlying3 g5
    refine ⟨⟨a0, a1, ks, a3, s4, a5⟩, ?_, hk, hb⟩
    have hc : cs = cs.take 1 ++ ((cs.drop 1).take 1 ++ ((cs.drop 2).take 32 ++ ((cs.drop 34).take 1 ++ ((cs.drop 35).take 1 ++ (cs.drop 36).take 1)))) := by
      apply List.ext_getElem?
      intro i
      have h36 : (cs.drop 36).take 1 = cs.drop 36 := List.take_of_length_le (by simp; omega)
      rw [h36, show cs.drop 36 = (cs.drop 35).drop 1 by rw [List.drop_drop], List.take_append_drop, show cs.drop 35 = (cs.drop 34).drop 1 by rw [List.drop_drop], List.take_append_drop, show cs.drop 34 = (cs.drop 2).drop 32 by rw [List.drop_drop], List.take_append_drop, show cs.drop 2 = (cs.drop 1).drop 1 by rw [List.drop_drop], List.take_append_drop, List.take_append_drop]
    simp only [List.drop_zero] at e0
    rw [hc, e0, e1, e2, e3, e4, e5]
    rfl
theorem open_cmd {H : Type} {enc : TypeId × Value → H} {W : World} {base : Nat} {sp : Nat → Bool} {held : Bool} {v : Value} {d : DataW H} {pl : List MemPlace} (hv : Value.okWide Try.prog W .any base 36 v) (ht : DataW.Trod enc Try.prog W 0 sp held 36 v d pl) :
    ∃ c : Co, v = c.v ∧ c.o.ks.length = 32 ∧ Byt c.o.ks := by
  simp only [Value.okWide, Try.underlying36] at hv
  obtain ⟨cs, rfl, hsz, _⟩ := hv
  obtain ⟨cs⟩ := cs
  rw [cmd_cells] at hsz
  obtain ⟨fuel, hf⟩ := ht
  obtain ⟨xs, m, _, _, hl, hxl, hfs⟩ := DataW.trod_struct Try.underlying36 hf
  have g0 := hfs 0 _ rfl
  have g1 := hfs 1 _ rfl
  have g2 := hfs 2 _ rfl
  match xs, hxl with
  | [y0, y1, y2], _ =>
    replace g0 : DataW.trod enc Try.prog W 0 sp held m 3 ((cs.drop 0).take (Try.prog.cellsOf 3)) = some y0 := g0
    replace g1 : DataW.trod enc Try.prog W 0 sp held m 3 ((cs.drop 1).take (Try.prog.cellsOf 3)) = some y1 := g1
    replace g2 : DataW.trod enc Try.prog W 0 sp held m 34 ((cs.drop 2).take (Try.prog.cellsOf 34)) = some y2 := g2
    rw [cint_cells] at g0 g1
    rw [op_cells] at g2
    obtain ⟨a0, e0, _, w0⟩ := DataW.trod_int Try.underlying3 g0
    obtain ⟨a1, e1, _, w1⟩ := DataW.trod_int Try.underlying3 g1
    obtain ⟨o, e2, hk, hb⟩ := open_op g2
    refine ⟨⟨a0, a1, o⟩, ?_, hk, hb⟩
    have hl2 : cs.length = 39 := by simpa using hsz
    simp only [List.drop_zero] at e0 e1 e2
    have hc : cs = cs.take 1 ++ ((cs.drop 1).take 1 ++ (cs.drop 2).take 37) := by
      have h2 : (cs.drop 2).take 37 = cs.drop 2 := List.take_of_length_le (by simp; omega)
      rw [h2, show cs.drop 2 = (cs.drop 1).drop 1 by rw [List.drop_drop], List.take_append_drop, List.take_append_drop]
    have : cs = (⟨a0, a1, o⟩ : Co).L := by
      rw [hc, e0, e1, e2]
      rfl
    rw [this]
def coB (x y : Co) : Bool := (x.s == y.s) && ((x.q == y.q) && oxB x.o y.o)
theorem fields36 : (Try.prog.fieldsOf 36).toList.map (fun f => (f.name, f.type, f.offset)) = [("Session", 3, 0), ("Seq", 3, 1), ("Op", 34, 2)] := by kernel_rfl
theorem agg34 (w : World) : (isAgg 34).run Try.prog w = .ok true w := by kernel_rfl
theorem size34 (w : World) : (sizeOf 34).run Try.prog w = .ok 37 w := by kernel_rfl
theorem part_op {c : Co} (h : c.o.ks.length = 32) (w : World) : (part 34 c.L.toArray 2).run Try.prog w = .ok c.o.v w := by
  have e : c.L.toArray.extract 2 (2 + 37) = c.o.L.toArray := by
    have hl := Ox.len h
    have : c.L.toArray.extract 2 (2 + 37) = ((c.L.drop 2).take 37).toArray := by apply Array.ext'; simp
    rw [this]
    simp only [Co.L, List.drop_succ_cons, List.drop_zero]
    rw [List.take_of_length_le (by omega)]
  unfold part
  simp only [Sem.run_bind, agg34, Result.andThen_ok, if_true, size34, Sem.run_pure, e]
theorem eq34D {x y : Ox} (hx : x.ks.length = 32) (hy : y.ks.length = 32) (w : World) : (Op.equalIn 9999 34 x.v y.v).run Try.prog w = .ok (oxB x y) w := by
  have hfo : Try.prog.underlying 34 = some (.struct (Try.prog.fieldsOf 34)) := by kernel_rfl
  have hst : Try.prog.stoodInHeld 34 = false := by kernel_rfl
  rw [run_equalIn_agg w 9998 34 _ _ hfo hst]
  rw [eq_fields 9998 _ _ w _ [⟨"Kind", 3, 0, false, "", "", 0⟩, ⟨"Node", 3, 1, false, "", "", 0⟩, ⟨"Key", 32, 2, false, "", "", 0⟩, ⟨"Expiry", 3, 34, false, "", "", 0⟩, ⟨"Text", 9, 35, false, "", "", 0⟩, ⟨"At", 3, 36, false, "", "", 0⟩] fields34]
  have i3 := Try.underlying3
  have i9 := Try.underlying9
  have e3 : ∀ (a b : Int) (w : World), (Op.equalIn 9998 3 (.int .i64 a) (.int .i64 b)).run Try.prog w = .ok (a == b) w := fun a b w => run_equalIn_int w 9997 3 .i64 _ a b i3
  have e9 : ∀ (a b : ByteArray) (w : World), (Op.equalIn 9998 9 (.string a) (.string b)).run Try.prog w = .ok (a.toList == b.toList) w := fun a b w => run_equalIn_string w 9997 9 a b i9
  have hkey : (Op.equalIn 9998 32 (.agg (x.ks.map (Value.int .u8)).toArray) (.agg (y.ks.map (Value.int .u8)).toArray)).run Try.prog w = .ok (x.ks == y.ks) w := run_equalIn_key w 9996 x.ks y.ks hx hy
  have x0 : x.L.toArray[0]? = some (.int .i64 x.kd) := rfl
  have y0 : y.L.toArray[0]? = some (.int .i64 y.kd) := rfl
  have x1 : x.L.toArray[1]? = some (.int .i64 x.nd) := rfl
  have y1 : y.L.toArray[1]? = some (.int .i64 y.nd) := rfl
  simp only [Op.eqFields, Sem.run_bind, Sem.run_ite, part_int x0, part_int y0, part_int x1, part_int y1, part_key, Ox.key hx, Ox.key hy, part_int (Ox.at34 hx), part_int (Ox.at34 hy), part_str (Ox.at35 hx), part_str (Ox.at35 hy), part_int (Ox.at36 hx), part_int (Ox.at36 hy), Result.andThen_ok, e3, e9, hkey, Sem.run_pure]
  unfold oxB
  cases h1 : (x.kd == y.kd) <;> cases h2 : (x.nd == y.nd) <;> cases h3 : (x.ks == y.ks) <;> cases h4 : (x.ex == y.ex) <;> cases h5 : (x.tx.toList == y.tx.toList) <;> cases h6 : (x.ti == y.ti) <;> simp
theorem eq36D {x y : Co} (hx : x.o.ks.length = 32) (hy : y.o.ks.length = 32) (w : World) : (Op.equalIn 10000 36 x.v y.v).run Try.prog w = .ok (coB x y) w := by
  have hfo : Try.prog.underlying 36 = some (.struct (Try.prog.fieldsOf 36)) := by kernel_rfl
  have hst : Try.prog.stoodInHeld 36 = false := by kernel_rfl
  rw [run_equalIn_agg w 9999 36 _ _ hfo hst]
  rw [eq_fields 9999 _ _ w _ [⟨"Session", 3, 0, false, "", "", 0⟩, ⟨"Seq", 3, 1, false, "", "", 0⟩, ⟨"Op", 34, 2, false, "", "", 0⟩] fields36]
  have i3 := Try.underlying3
  have e3 : ∀ (a b : Int) (w : World), (Op.equalIn 9999 3 (.int .i64 a) (.int .i64 b)).run Try.prog w = .ok (a == b) w := fun a b w => run_equalIn_int w 9998 3 .i64 _ a b i3
  have x0 : x.L.toArray[0]? = some (.int .i64 x.s) := rfl
  have y0 : y.L.toArray[0]? = some (.int .i64 y.s) := rfl
  have x1 : x.L.toArray[1]? = some (.int .i64 x.q) := rfl
  have y1 : y.L.toArray[1]? = some (.int .i64 y.q) := rfl
  simp only [Op.eqFields, Sem.run_bind, Sem.run_ite, part_int x0, part_int y0, part_int x1, part_int y1, part_op hx, part_op hy, Result.andThen_ok, e3, eq34D hx hy, Sem.run_pure]
  unfold coB
  cases h1 : (x.s == y.s) <;> cases h2 : (x.q == y.q) <;> cases h3 : oxB x.o y.o <;> simp
theorem coB_refl (x : Co) : coB x x = true := by simp [coB, oxB_refl]
theorem step_cmp36 {ops : Array Oper} {rest : List Oper} {op : Oper} {a : Act} {w : World} {Q : Exit → Act → World → Prop} (hw : Region.wanted op (yielded ops a.tmps) = true) (bo : BinOp) (hbo : bo = .eql ∨ bo = .neq) (x y : Operand) (ho : op.op = .binOp bo 36 x y 36)
    (c d : Co) (hx : a.eval x = c.v) (hy : a.eval y = d.v) (hc : c.o.ks.length = 32) (hd : d.o.ks.length = 32) (r : Bool) (hr : (if bo = .eql then coB c d else !(coB c d)) = r)
    (h : wpList Try.prog ops Q rest (a.put op.dst (.bool r)) w) : wpList Try.prog ops Q (op :: rest) a w :=
  BigFrame.wpList_want hw fun K hK => by
    have hg : Try.prog.eqGuardType Try.prog.depth 36 = false := by kernel_rfl
    unfold Oper.wp execOp
    rcases hbo with rfl | rfl
    · simp only [ho, hx, hy, Sem.run_bind, run_eqGuard_agg w .eql 36 x y _ _ hg, run_eql_struct, eq36D hc hd, Result.andThen_ok, Sem.run_pure]
      rw [if_pos rfl] at hr
      rw [hr]
      exact hK _ _ h
    · simp only [ho, hx, hy, Sem.run_bind, run_eqGuard_agg w .neq 36 x y _ _ hg, run_neq_struct, eq36D hc hd, Result.andThen_ok, Sem.run_pure]
      rw [if_neg (by decide)] at hr
      rw [hr]
      exact hK _ _ h
end

section
theorem rd_takeC {w : World} {S : Nat → Prop} {A : Option Addr} {c : Nat} {ys : List Int} (h : Rd w S 1 (.slice A ys.length c) ys.length (bts ys)) {k : Nat} (hk : k ≤ ys.length) : Rd w S 1 (.slice A (ys.take k).length c) (ys.take k).length (bts (ys.take k)) := by
  obtain ⟨hl, A', c', he, h1, h2, h3⟩ := h
  injection he with e1 e2 e3
  subst e1 e3
  have hlt : (ys.take k).length = k := by simp; omega
  refine ⟨by simp [bts], A, c, rfl, by omega, h2, fun h0 => ?_⟩
  obtain ⟨g, o, rfl, hs, hc⟩ := h3 (by omega)
  refine ⟨g, o, rfl, hs, fun j u hu => hc j u ?_⟩
  have hj : j < (bts (ys.take k)).length := by
    rcases Nat.lt_or_ge j (bts (ys.take k)).length with h | h
    · exact h
    · rw [List.getElem?_eq_none h] at hu; cases hu
  rw [bts_length, hlt] at hj
  have e : bts (ys.take k) = (bts ys).take k := by simp [bts, List.map_take]
  rw [e, List.getElem?_take_of_lt hj] at hu
  exact hu
theorem ccut_un {c : Co} (hc : cmB c = true) (h32 : c.o.ks.length = 32) (hb : Byt c.o.ks) {k : Nat} (hk : k < (cpackP c).length) : (vZ ((cpackP c).take k)).e = 3 := by
  rw [cpackP_app (cmay_of hc)] at hk ⊢
  have h := cmd_cut hc h32 hb (r := []) (by intro x hx; simp at hx) k (ys := (cpackB c).take k) (by rw [List.append_nil])
  rcases h with h | h
  · exact h.2
  · omega
theorem cmore_un {c : Co} (hc : cmB c = true) (h32 : c.o.ks.length = 32) (hb : Byt c.o.ks) {x : Int} (hx : 0 ≤ x ∧ x < 256) : (vZ (cpackP c ++ [x])).e = 4 := by
  rw [cpackP_app (cmay_of hc)]
  have h := cmd_cut hc h32 hb (r := [x]) (by intro y hy; simp only [List.mem_singleton] at hy; omega) ((cpackB c).length + 1) (ys := cpackB c ++ [x]) (by rw [List.take_of_length_le (by simp)])
  rcases h with h | h
  · omega
  · exact h.2.1 (by rw [Nat.add_sub_cancel_left]; simp)
theorem cback_un {c : Co} (hc : cmB c = true) (h32 : c.o.ks.length = 32) (hb : Byt c.o.ks) : (vZ (cpackP c)).e = 0 ∧ vC (cpackP c) = c := by
  rw [cpackP_app (cmay_of hc)]
  have h := cmd_cut hc h32 hb (r := []) (by intro x hx; simp at hx) (cpackB c).length (ys := cpackB c) (by rw [List.append_nil, List.take_length])
  rcases h with h | h
  · omega
  · exact h.2.2 (by simp)
theorem cpackP_pos {c : Co} (hc : cmB c = true) : 0 < (cpackP c).length := by
  rw [cpackP_app (cmay_of hc)]
  unfold cpackB
  rw [List.length_append, Wr.be_length]
  omega
theorem cpackP_byt {c : Co} (hc : cmB c = true) (hb : Byt c.o.ks) : Byt (cpackP c) := by
  rw [cpackP_app (cmay_of hc)]; exact cpack_byt hb

set_option maxHeartbeats 4000000 in
theorem postCutC_at (W : World) (co : Co) (h32 : co.o.ks.length = 32) (hbk : Byt co.o.ks) (n : Int) (x : Int) (hx : 0 ≤ x ∧ x < 256) :
    Calls Try.prog 4 #[co.v, .int .i64 n, .int .u8 x] W (TrueB W) := by
  have HK32 := Lib.hid h32
  have HG0 := Lib.hid (Blk.new W 36 co.L.toArray)
  cases hc : cmB co
  · have HC := Lib.hid hc
    clear hc hbk h32
    go_enter Try.func4, Try.ntmps4
    go_wp2_with (first | (refine step_load36 rfl (.tmp 3) rfl W.heap.size rfl co HK32.out (blk_range HG0.out) ?_) | fail)
    obtain ⟨wg, hwg⟩ : ∃ u, u = W.alloc (.cells co.L.toArray 36) := ⟨_, rfl⟩
    have hk : Below W.heap.size W wg := by rw [hwg]; exact Ba (B0 W) _
    have HB := Lib.hid hk
    rw [← hwg]
    clear hwg hk
    refine (cmd_bad co wg HK32.out HC.out).mono ?_
    rintro e w2 ⟨rfl, hk⟩
    replace HB := Lib.hid (Bt HB.out hk)
    clear hk
    go_wp2_with fail
    refine (awake_any w2).mono ?_
    rintro e w4 ⟨rfl, hk⟩
    replace HB := Lib.hid (Bt HB.out hk)
    clear hk
    go_wp2_with fail
    go_ret
    exact ⟨rfl, HB.out⟩
  · obtain ⟨i0, hi0, hz0, hz1, hz2⟩ := info_parts info5
    have HC := Lib.hid hc
    have HY := Lib.hid (cpackP_byt hc hbk)
    have HN := Lib.hid (cpackP_len (cmay_of hc) h32)
    have HPS := Lib.hid (cpackP_pos hc)
    have HM := Lib.hid (cmore_un hc h32 hbk hx)
    have HCU := Lib.hid (fun k (hk : k < (cpackP co).length) => ccut_un hc h32 hbk hk)
    have HX := Lib.hid hx
    obtain ⟨ys, hys⟩ : ∃ ys, ys = cpackP co := ⟨_, rfl⟩
    rw [← hys] at HY HN HPS HM HCU
    have HYS := Lib.hid hys
    clear hc hbk hys hx h32
    go_enter Try.func4, Try.ntmps4
    go_wp2_with (first | (refine step_load36 rfl (.tmp 3) rfl W.heap.size rfl co HK32.out (blk_range HG0.out) ?_) | fail)
    obtain ⟨wg, hwg⟩ : ∃ u, u = W.alloc (.cells co.L.toArray 36) := ⟨_, rfl⟩
    have hk : Below W.heap.size W wg := by rw [hwg]; exact Ba (B0 W) _
    have HB := Lib.hid hk
    rw [← hwg]
    clear hwg hk
    refine (cmd_ok co wg HK32.out HC.out).mono ?_
    rw [← HYS.out]
    rintro e w2 ⟨A2, c2, rfl, hf⟩
    obtain ⟨g2, rest, rfl, _, _⟩ := own_row hf.own HPS.out (by omega)
    replace HB := Lib.hid (Bt HB.out hf.kept)
    have hfr := hf.rd
    have HF := Lib.hid hfr
    have hcap := hfr.cap
    unfold maxLen at hcap
    obtain ⟨_, hc1, hc2⟩ := hcap
    clear hf hfr
    go_wp2_with fail
    refine (bring_any n (ys.length : Int) w2 (by have := HN.out; omega)).mono ?_
    rintro e w3 ⟨rfl, rfl⟩
    have hbr := bringF_lt n (ys.length : Int) (by have := HPS.out; omega)
    obtain ⟨k, hk⟩ : ∃ k : Nat, bringF n (ys.length : Int) = k := ⟨(bringF n (ys.length : Int)).toNat, by omega⟩
    rw [hk] at hbr ⊢
    have hk0 : (0 : Int) ≤ (k : Int) := hbr.1
    have hk1 : (k : Int) ≤ (c2 : Int) := by omega
    have HK := Lib.hid (show k < ys.length by omega)
    clear hk hbr
    go_wp2_with fail
    have hlk : (ys.take k).length = k := by have := HK.out; simp; omega
    have hrk := rd_takeC HF.out (Nat.le_of_lt HK.out)
    have hrk2 : Rd w2 (fun i => i < w2.heap.size) 1 (.slice (some ⟨g2, 0, none⟩) (ys.take k).length c2) (ys.take k).length (bts (ys.take k)) := hrk
    have hun := command_any _ (some ⟨g2, 0, none⟩) c2 (ys.take k) w2 hrk2 (fun _ h => h) (HY.out.take k) (by have := HN.out; have := HK.out; omega)
    rw [hlk] at hun
    refine hun.mono ?_
    rintro e w3 ⟨Q, rfl, hqk, hk, hcase⟩
    rw [HCU.out k HK.out]
    clear hcase hun hrk hrk2 hlk
    replace HB := Lib.hid (Bt HB.out hk)
    have HW2 := Lib.hid hk.size
    replace HF := Lib.hid (HF.out.below hk (fun _ h => h))
    clear hk
    have HQK := Lib.hid hqk
    clear hqk
    go_wp2_with (first | (refine step_store36 rfl (.tmp 9) (.tmp 30) rfl w3.heap.size rfl Q HQK.out rfl _ (Blk.new w3 36 _) rfl ?_; intro wq hbq hmq hsq; have HMQ := Lib.hid hmq; clear hbq hmq hsq) | fail)
    have hk : Below w3.heap.size w3 wq := Bm (Ba (B0 w3) _) HMQ.out (fun i hi => by omega)
    replace HB := Lib.hid (Bt HB.out hk)
    replace HF := Lib.hid (HF.out.below hk (fun i hi => Nat.lt_of_lt_of_le hi HW2.out))
    clear hk HMQ
    have HWB := Lib.hid HB.out.size
    refine (copy_bytes _ _ ys wq HF.out (by have := HN.out; omega)).mono ?_
    rintro e w4 ⟨A4, c4, rfl, hf⟩
    replace HB := Lib.hid (Bt HB.out hf.kept)
    have HO := Lib.hid (hf.own.alloc (.cells #[.int .u8 x] 5))
    have HWQ := Lib.hid hf.kept.size
    clear hf hk1 hc1 hc2
    go_wp2_with (at_builtin; refine wpList_append_rd _ rfl (.tmp 34) (.tmp 36) _ rfl wq.heap.size 5 i0 _ 1 1 Try.underlying23 hi0 hz0 hz1 hz2 rfl (by omega) (.slice A4 ys.length c4) ys.length (bts ys) rfl HO.out (fun k => k = w4.heap.size) (.slice (some ⟨w4.heap.size, 0, none⟩) 1 1) 1 [.int .u8 x] rfl (Rd.box w4 5 [.int .u8 x] 1 rfl) (by simp [Value.oneCell']) (by have := HN.out; simp only [maxLen]; omega) (by have := HN.out; omega) (by have := HWQ.out; simp; omega) ?_; intro v2 w5 HA)
    obtain ⟨A5, c5, rfl⟩ := own_slice HA.own
    replace HB := Lib.hid ((Ba HB.out _).grown HA.grown (by have := HB.out.size; simp; omega) (fun j hj => Nat.le_trans HWB.out (own_ge HO.out j hj)))
    have hr5 : Rd w5 (fun i => (Value.slice A5 (ys.length + 1) c5).ownBlock = some i) 1 (.slice A5 (ys ++ [x]).length c5) (ys ++ [x]).length (bts (ys ++ [x])) := by
      have h := Rd.of_own HA.own
      have e1 : (ys ++ [x]).length = ys.length + 1 := by simp
      have e2 : bts (ys ++ [x]) = bts ys ++ [.int .u8 x] := by simp [bts]
      rw [e1, e2]
      exact h
    have hun := command_any _ A5 c5 (ys ++ [x]) w5 hr5 (own_lt HA.own) (Byt.append HY.out (by intro y hy; simp only [List.mem_singleton] at hy; have := HX.out; omega)) (by have := HN.out; simp; omega)
    rw [show (ys ++ [x]).length = ys.length + 1 by simp] at hun
    clear HA
    refine hun.mono ?_
    rintro e w6 ⟨Q2, rfl, hqk, hk, hcase⟩
    rw [HM.out]
    replace HB := Lib.hid (Bt HB.out hk)
    have HQ2 := Lib.hid hqk
    clear hcase hqk hun hr5 hk
    go_wp2_with (first | (refine step_store36 rfl (.tmp 12) (.tmp 41) rfl w6.heap.size rfl Q2 HQ2.out rfl _ (Blk.new w6 36 _) rfl ?_; intro wq2 hbq hmq hsq; have HMQ := Lib.hid hmq; clear hbq hmq hsq) | fail)
    replace HB := Lib.hid (Bm (Ba HB.out _) HMQ.out (fun i hi => by subst hi; exact HB.out.size))
    refine (awake_any wq2).mono ?_
    rintro e w7 ⟨rfl, hk⟩
    replace HB := Lib.hid (Bt HB.out hk)
    clear hk
    go_wp2_with fail
    go_ret
    exact ⟨rfl, HB.out⟩
theorem postCutC_walk {H : Type} {enc : TypeId × Value → H} (W : World) {base : Nat} {sp : Nat → Bool} {held : Bool} {v : Value} {d : DataW H} {pl : List MemPlace} (hv : Value.okWide Try.prog W .any base 36 v) (ht : DataW.Trod enc Try.prog W 0 sp held 36 v d pl)
    (hz : ∀ n ∈ d.weights Try.prog 36, n ≤ reachBytes) (n : Int) (w1 : (Lit.int .i64 n).wf = true) (x : Int) (w2 : (Lit.int .u8 x).wf = true) :
    Calls Try.prog 4 #[v, .int .i64 n, .int .u8 x] W fun e w' => e = .returned (.bool true) ∧ Below W.heap.size W w' := by
  obtain ⟨c, rfl, hk, hb⟩ := open_cmd hv ht
  exact postCutC_at W c hk hb n x (u8_wf w2)
end
end Go.Proofs.Ytnphnaggamfoiaa
