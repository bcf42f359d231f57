/- A message's bytes, read back: whole, cut, and with more behind them (plain words, no walk). -/
import Derived.Test.YtnphnaggamfoiaaL1
import Derived.Test.YtnphnaggamfoiaaE8
namespace Go.Proofs.Ytnphnaggamfoiaa
open Go.RowKit
set_option maxRecDepth 20000
set_option linter.unusedVariables false
set_option linter.unusedSimpArgs false

theorem be7_byt (L : List Int) : Byt (be7 L) := by
  induction L with
  | nil => intro x hx; simp [be7] at hx
  | cons a L ih => exact Byt.append (Wr.be_byt 7 a) ih
theorem okB_byt (b : Bool) : Byt (okB b) := by
  intro x hx
  cases b <;> simp [okB] at hx <;> omega
theorem olay_byt {a : List Int} (h : Byt a) : Byt (olay a) := Byt.append (Wr.be_byt 2 _) h
/-- Wrong stays wrong. -/
theorem bS_bad {s : St} (h : s.e ≠ 0) (kd : Int) : (bS kd s).e = s.e := by
  have n7 := fun n => St.nx_bad h n
  unfold bS
  by_cases k1 : kd = 1
  · rw [if_pos k1]; unfold rS1; rw [n7, n7]
  · rw [if_neg k1]
    by_cases k2 : kd = 2
    · rw [if_pos k2]; unfold rS2; rw [St.fx_bad h]
    · rw [if_neg k2]
      by_cases k3 : kd = 3
      · rw [if_pos k3]
        have ha : rS3a s = s := by unfold rS3a; rw [n7, n7, n7, n7]
        have hm : s.mx = s := by unfold St.mx; rw [n7, St.fail_bad h]
        unfold rS3 rN3
        rw [ha, hm, if_neg h]
        rfl
      · rw [if_neg k3]
        by_cases k4 : kd = 4
        · rw [if_pos k4]; unfold rS4; rw [St.fx_bad h, n7, n7]
        · rw [if_neg k4]
          by_cases k5 : kd = 5
          · rw [if_pos k5]; unfold rS5; rw [n7, n7, n7, n7, St.ox_bad h]
          · rw [if_neg k5]
            by_cases k6 : kd = 6
            · rw [if_pos k6]; unfold rS6; rw [n7, n7]
            · rw [if_neg k6]
def R7 (v : Int) : Prop := 0 ≤ v ∧ v < Wr.p256 7
theorem nx2_cut {s : St} {a b : Int} (ha : R7 a) (hb : R7 b) {r : List Int} (hr : Byt r) {k : Nat} (hs : s = ⟨(be7 [a, b] ++ r).take k, 0⟩) :
    Cut s ((s.nx 7).nx 7) (be7 [a, b]) r k (s.num 7 = a ∧ (s.nx 7).num 7 = b) := by
  have e : be7 [a, b] = Wr.be 7 a ++ Wr.be 7 b := by simp [be7]
  rw [e] at hs ⊢
  have h1 := St.nx_cut (s := s) (n := 7) (.inr (.inr rfl)) ha.1 ha.2 (Byt.append (Wr.be_byt 7 b) hr) (k := k) (by rw [hs, List.append_assoc])
  exact Cut.trans h1 (fun hne => by rw [St.nx_bad hne]) (fun _ he => St.nx_cut (n := 7) (.inr (.inr rfl)) hb.1 hb.2 hr he)
theorem nx3_cut {s : St} {a b c : Int} (ha : R7 a) (hb : R7 b) (hc : R7 c) {r : List Int} (hr : Byt r) {k : Nat} (hs : s = ⟨(be7 [a, b, c] ++ r).take k, 0⟩) :
    Cut s (((s.nx 7).nx 7).nx 7) (be7 [a, b, c]) r k (s.num 7 = a ∧ (s.nx 7).num 7 = b ∧ ((s.nx 7).nx 7).num 7 = c) := by
  have e : be7 [a, b, c] = Wr.be 7 a ++ be7 [b, c] := by simp [be7]
  rw [e] at hs ⊢
  have h1 := St.nx_cut (s := s) (n := 7) (.inr (.inr rfl)) ha.1 ha.2 (Byt.append (be7_byt [b, c]) hr) (k := k) (by rw [hs, List.append_assoc])
  exact Cut.trans h1 (fun hne => by rw [St.nx_bad hne, St.nx_bad hne]) (fun _ he => nx2_cut hb hc hr he)
theorem nx4_cut {s : St} {a b c d : Int} (ha : R7 a) (hb : R7 b) (hc : R7 c) (hd : R7 d) {r : List Int} (hr : Byt r) {k : Nat} (hs : s = ⟨(be7 [a, b, c, d] ++ r).take k, 0⟩) :
    Cut s ((((s.nx 7).nx 7).nx 7).nx 7) (be7 [a, b, c, d]) r k (s.num 7 = a ∧ (s.nx 7).num 7 = b ∧ ((s.nx 7).nx 7).num 7 = c ∧ (((s.nx 7).nx 7).nx 7).num 7 = d) := by
  have e : be7 [a, b, c, d] = Wr.be 7 a ++ be7 [b, c, d] := by simp [be7]
  rw [e] at hs ⊢
  have h1 := St.nx_cut (s := s) (n := 7) (.inr (.inr rfl)) ha.1 ha.2 (Byt.append (be7_byt [b, c, d]) hr) (k := k) (by rw [hs, List.append_assoc])
  exact Cut.trans h1 (fun hne => by rw [St.nx_bad hne, St.nx_bad hne, St.nx_bad hne]) (fun _ he => nx3_cut hb hc hd hr he)
/-- What an entry's parts must be, to be read back. -/
def EdR (x : Ed) : Prop := R7 x.te ∧ (0 ≤ x.ki ∧ x.ki < Wr.p256 1) ∧ x.bs.length < 65536 ∧ Byt x.bs
theorem entBy_byt {x : Ed} (h : EdR x) : Byt (entBy x) := Byt.append (Wr.be_byt 7 _) (Byt.append (Wr.be_byt 1 _) (olay_byt h.2.2.2))
theorem ents_byt {l : List Ed} (h : ∀ x ∈ l, EdR x) : Byt (l.flatMap entBy) := by
  intro y hy
  obtain ⟨x, hx, hy⟩ := List.mem_flatMap.1 hy
  exact entBy_byt (h x hx) y hy
theorem entS_bad {s : St} (h : s.e ≠ 0) : entS s = s := by unfold entS; rw [St.nx_bad h, St.nx_bad h, St.ox_bad h]
theorem readS_bad : ∀ (n : Nat) {s : St}, s.e ≠ 0 → readS s n = s
  | 0, _, _ => rfl
  | n + 1, s, h => by show readS (entS s) n = s; rw [entS_bad h]; exact readS_bad n h
theorem ent_cut {s : St} {x : Ed} (h : EdR x) {r : List Int} (hr : Byt r) {k : Nat} (hs : s = ⟨(entBy x ++ r).take k, 0⟩) :
    Cut s (entS s) (entBy x) r k (s.num 7 = x.te ∧ (s.nx 7).num 1 = x.ki ∧ ((s.nx 7).nx 1).oct = x.bs) := by
  have h1 := St.nx_cut (s := s) (n := 7) (.inr (.inr rfl)) h.1.1 h.1.2 (Byt.append (Byt.append (Wr.be_byt 1 x.ki) (olay_byt h.2.2.2)) hr) (k := k) (by rw [hs]; simp [entBy])
  unfold entBy
  refine Cut.trans h1 (fun hne => by show (((s.nx 7).nx 1).ox).e = _; rw [St.nx_bad hne, St.ox_bad hne]) (fun _ he => ?_)
  have h2 := St.nx_cut (s := s.nx 7) (n := 1) (.inl rfl) h.2.1.1 h.2.1.2 (Byt.append (olay_byt h.2.2.2) hr) (k := k - (Wr.be 7 x.te).length) (by rw [he]; simp)
  exact Cut.trans h2 (fun hne => by show (((s.nx 7).nx 1).ox).e = _; rw [St.ox_bad hne]) (fun _ he2 => St.ox_cut h.2.2.1 h.2.2.2 hr he2)
theorem read_cut : ∀ (l : List Ed) {s : St} (b : Int) (_ : ∀ x ∈ l, EdR x) (_ : ∀ i (hi : i < l.length), l[i].ix = b + i) {r : List Int} (_ : Byt r) {k : Nat} (_ : s = ⟨(l.flatMap entBy ++ r).take k, 0⟩),
    Cut s (readS s l.length) (l.flatMap entBy) r k (readE s b l.length = l)
  | [], s, b, _, _, r, hr, k, hs => .inr ⟨Nat.zero_le _, by rw [hs]; simp [readS], rfl⟩
  | x :: l, s, b, h, hi, r, hr, k, hs => by
    have hx := h x (by simp)
    have hl := fun y hy => h y (List.mem_cons_of_mem x hy)
    have h1 := ent_cut hx (Byt.append (ents_byt hl) hr) (s := s) (k := k) (by rw [hs]; simp)
    have hx0 : x.ix = b := by have := hi 0 (by simp); simpa using this
    have hil : ∀ i (hi2 : i < l.length), l[i].ix = b + 1 + i := fun i hi2 => by
      have := hi (i + 1) (by simpa using hi2)
      simp only [List.getElem_cons_succ] at this
      omega
    have h2 := Cut.trans h1 (s2 := readS (entS s) l.length) (fun hne => by rw [readS_bad _ hne]) (fun _ he => read_cut l (b + 1) hl hil hr he)
    refine h2.mono (fun q => ?_)
    show entE s b :: readE (entS s) (b + 1) l.length = x :: l
    rw [q.2]
    unfold entE
    rw [q.1.1, q.1.2.1, q.1.2.2, ← hx0]
end Go.Proofs.Ytnphnaggamfoiaa
