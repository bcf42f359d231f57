/- L1, L2, L3, L4, L5 in one text. -/
import Derived.Test.YtnphnaggamfoiaaD7
import Derived.Test.YtnphnaggamfoiaaL0
import Derived.Test.YtnphnaggamfoiaaE8
namespace Go.Proofs.Ytnphnaggamfoiaa
open Go.RowKit
set_option maxRecDepth 20000
set_option linter.unusedVariables false
set_option linter.unusedSimpArgs false
section
theorem putL_app {n : Nat} (hn : Sz n) {v : Int} (h0 : 0 ≤ v) (h1 : v < Wr.p256 n) (xs : List Int) : Wr.putL xs v n = xs ++ Wr.be n v := by
  have h := hn.rng
  have he : Wr.putE v n = 0 := by unfold Wr.putE; rw [if_neg (by omega), if_neg (by rw [Int.toNat_natCast]; omega)]
  unfold Wr.putL
  rw [if_pos he, Int.toNat_natCast]
theorem octL_app {a : List Int} (h : a.length < 65536) (xs : List Int) : Wr.octL xs a = xs ++ olay a := by
  unfold Wr.octL olay
  rw [if_neg (by omega)]
/-- Numbers of seven bytes, one by one. -/
def be7 (L : List Int) : List Int := L.flatMap (Wr.be 7)
theorem putsL_app : ∀ (L : List (Nat × Int)) (xs : List Int), (∀ x ∈ L, 0 ≤ x.2 ∧ x.2 < Wr.p256 7) → putsL xs L = xs ++ be7 (L.map (·.2))
  | [], xs, h => by simp [putsL, be7]
  | x :: L, xs, h => by
    have hx := h x (by simp)
    have ih := putsL_app L (xs ++ Wr.be 7 x.2) (fun y hy => h y (by simp [hy]))
    have e := putL_app (n := 7) (.inr (.inr rfl)) hx.1 hx.2 xs
    unfold putsL at ih ⊢
    rw [List.foldl_cons, show Wr.putL xs x.2 7 = Wr.putL xs x.2 ((7 : Nat) : Int) from rfl, e, ih]
    simp [be7]
def okB (b : Bool) : List Int := if b then [1] else [0]
def entBy (x : Ed) : List Int := Wr.be 7 x.te ++ (Wr.be 1 x.ki ++ olay x.bs)
def bodyB (P : Po) (l : List Ed) (d : List Int) : List Int :=
  if P.kd = 1 then be7 [P.ix, P.lt] else if P.kd = 2 then okB P.ok else if P.kd = 3 then be7 [P.ix, P.lt, P.co, P.hi] ++ (Wr.be 1 l.length ++ l.flatMap entBy)
  else if P.kd = 4 then okB P.ok ++ be7 [P.ix, P.hi] else if P.kd = 5 then be7 [P.hi, P.si, P.st] ++ (Wr.be 1 P.sc ++ olay d) else be7 [P.ix, P.hi]
def packB (P : Po) (l : List Ed) (d : List Int) : List Int := Wr.be 1 P.kd ++ (Wr.be 1 P.fr ++ (Wr.be 1 P.to ++ (Wr.be 7 P.te ++ bodyB P l d)))
theorem putL_ok1 (b : Bool) (xs : List Int) : Wr.putL xs (if b then 1 else 0) 1 = xs ++ okB b := by
  rw [show (1 : Int) = ((1 : Nat) : Int) from rfl, putL_app (n := 1) (.inl rfl) (by cases b <;> decide) (by cases b <;> decide)]
  cases b <;> rfl
theorem entsL_app : ∀ (l : List Ed) (xs : List Int), (∀ x ∈ l, (0 ≤ x.te ∧ x.te < Wr.p256 7) ∧ (0 ≤ x.ki ∧ x.ki < Wr.p256 1) ∧ x.bs.length < 65536) → entsL xs l = xs ++ l.flatMap entBy
  | [], xs, h => by simp [entsL]
  | x :: l, xs, h => by
    have hx := h x (by simp)
    have ih := entsL_app l (xs ++ entBy x) (fun y hy => h y (by simp [hy]))
    have e : entL xs x = xs ++ entBy x := by
      unfold entL entBy
      rw [show (7 : Int) = ((7 : Nat) : Int) from rfl, show (1 : Int) = ((1 : Nat) : Int) from rfl, putL_app (n := 7) (.inr (.inr rfl)) hx.1.1 hx.1.2, putL_app (n := 1) (.inl rfl) hx.2.1.1 hx.2.1.2, octL_app hx.2.2]
      simp
    unfold entsL at ih ⊢
    rw [List.foldl_cons, e, ih]
    simp
theorem packP_app {P : Po} {l : List Ed} {d : List Int} (h : May P l) (hen : l.length = P.en) (hd : d.length = P.sn) : packP P l d = packB P l d := by
  have p1 : Wr.p256 1 = 256 := by decide
  have p7 : Wr.p256 7 = 72057594037927936 := by decide
  have hkd := h.kd; have hfr := h.fr; have htq := h.tq; have hte := h.te; have hix := h.ix; have hco := h.co; have hhi := h.hi; have hlt := h.lt; have hm := h.most
  have hH : headL P = Wr.be 1 P.kd ++ (Wr.be 1 P.fr ++ (Wr.be 1 P.to ++ Wr.be 7 P.te)) := by
    unfold headL
    rw [show (7 : Int) = ((7 : Nat) : Int) from rfl, show (1 : Int) = ((1 : Nat) : Int) from rfl, putL_app (n := 1) (.inl rfl) (by omega) (by rw [p1]; omega), putL_app (n := 1) (.inl rfl) (by omega) (by rw [p1]; omega), putL_app (n := 1) (.inl rfl) (by omega) (by rw [p1]; omega), putL_app (n := 7) (.inr (.inr rfl)) (by omega) (by rw [p7]; omega)]
    simp
  have hB : packB P l d = headL P ++ bodyB P l d := by unfold packB; rw [hH]; simp
  rw [hB]
  unfold packP bodyL bodyB
  by_cases k1 : P.kd = 1
  · rw [if_pos k1, if_pos k1]; unfold wbody1; rw [putsL_app _ _ (by simp; omega)]; rfl
  · rw [if_neg k1, if_neg k1]
    by_cases k2 : P.kd = 2
    · rw [if_pos k2, if_pos k2]; exact putL_ok1 _ _
    · rw [if_neg k2, if_neg k2]
      by_cases k3 : P.kd = 3
      · rw [if_pos k3, if_pos k3]
        have hf := ents_facts P.te hte.2 l (P.ix + 1) P.lt hlt.1 h.ents
        unfold wbody3
        rw [putsL_app _ _ (by simp; omega), show (1 : Int) = ((1 : Nat) : Int) from rfl, putL_app (n := 1) (.inl rfl) (by omega) (by rw [p1]; omega), entsL_app _ _ (fun x hx => by
          obtain ⟨k, hk, rfl⟩ := List.getElem_of_mem hx
          have := hf k hk
          rw [p7, p1]
          omega), hen]
        simp
      · rw [if_neg k3, if_neg k3]
        by_cases k4 : P.kd = 4
        · rw [if_pos k4, if_pos k4]; unfold wbody4; rw [putL_ok1, putsL_app _ _ (by simp; omega)]; simp
        · rw [if_neg k4, if_neg k4]
          by_cases k5 : P.kd = 5
          · rw [if_pos k5, if_pos k5]
            have hs := h.snap0
            unfold wbody5
            rw [putsL_app _ _ (by simp; omega), show (1 : Int) = ((1 : Nat) : Int) from rfl, putL_app (n := 1) (.inl rfl) (by omega) (by rw [p1]; omega), octL_app (by omega)]
            simp
          · rw [if_neg k5, if_neg k5]; unfold wbody6; rw [putsL_app _ _ (by simp; omega)]; rfl
end

section
theorem be7_byt (L : List Int) : Byt (be7 L) := by
  induction L with
  | nil => intro x hx; simp [be7] at hx
  | cons a L ih => exact Byt.append (Wr.be_byt 7 a) ih
theorem okB_byt (b : Bool) : Byt (okB b) := by
  intro x hx
  cases b <;> simp [okB] at hx <;> omega
theorem olay_byt {a : List Int} (h : Byt a) : Byt (olay a) := Byt.append (Wr.be_byt 2 _) h
/-- Wrong stays wrong. -/
theorem bS_bad {s : St} (h : s.e ≠ 0) (kd : Int) : (bS kd s).e = s.e := by
  have n7 := fun n => St.nx_bad h n
  unfold bS
  by_cases k1 : kd = 1
  · rw [if_pos k1]; unfold rS1; rw [n7, n7]
  · rw [if_neg k1]
    by_cases k2 : kd = 2
    · rw [if_pos k2]; unfold rS2; rw [St.fx_bad h]
    · rw [if_neg k2]
      by_cases k3 : kd = 3
      · rw [if_pos k3]
        have ha : rS3a s = s := by unfold rS3a; rw [n7, n7, n7, n7]
        have hm : s.mx = s := by unfold St.mx; rw [n7, St.fail_bad h]
        unfold rS3 rN3
        rw [ha, hm, if_neg h]
        rfl
      · rw [if_neg k3]
        by_cases k4 : kd = 4
        · rw [if_pos k4]; unfold rS4; rw [St.fx_bad h, n7, n7]
        · rw [if_neg k4]
          by_cases k5 : kd = 5
          · rw [if_pos k5]; unfold rS5; rw [n7, n7, n7, n7, St.ox_bad h]
          · rw [if_neg k5]
            by_cases k6 : kd = 6
            · rw [if_pos k6]; unfold rS6; rw [n7, n7]
            · rw [if_neg k6]
def R7 (v : Int) : Prop := 0 ≤ v ∧ v < Wr.p256 7
theorem nx2_cut {s : St} {a b : Int} (ha : R7 a) (hb : R7 b) {r : List Int} (hr : Byt r) {k : Nat} (hs : s = ⟨(be7 [a, b] ++ r).take k, 0⟩) :
    Cut s ((s.nx 7).nx 7) (be7 [a, b]) r k (s.num 7 = a ∧ (s.nx 7).num 7 = b) := by
  have e : be7 [a, b] = Wr.be 7 a ++ Wr.be 7 b := by simp [be7]
  rw [e] at hs ⊢
  have h1 := St.nx_cut (s := s) (n := 7) (.inr (.inr rfl)) ha.1 ha.2 (Byt.append (Wr.be_byt 7 b) hr) (k := k) (by rw [hs, List.append_assoc])
  exact Cut.trans h1 (fun hne => by rw [St.nx_bad hne]) (fun _ he => St.nx_cut (n := 7) (.inr (.inr rfl)) hb.1 hb.2 hr he)
theorem nx3_cut {s : St} {a b c : Int} (ha : R7 a) (hb : R7 b) (hc : R7 c) {r : List Int} (hr : Byt r) {k : Nat} (hs : s = ⟨(be7 [a, b, c] ++ r).take k, 0⟩) :
    Cut s (((s.nx 7).nx 7).nx 7) (be7 [a, b, c]) r k (s.num 7 = a ∧ (s.nx 7).num 7 = b ∧ ((s.nx 7).nx 7).num 7 = c) := by
  have e : be7 [a, b, c] = Wr.be 7 a ++ be7 [b, c] := by simp [be7]
  rw [e] at hs ⊢
  have h1 := St.nx_cut (s := s) (n := 7) (.inr (.inr rfl)) ha.1 ha.2 (Byt.append (be7_byt [b, c]) hr) (k := k) (by rw [hs, List.append_assoc])
  exact Cut.trans h1 (fun hne => by rw [St.nx_bad hne, St.nx_bad hne]) (fun _ he => nx2_cut hb hc hr he)
theorem nx4_cut {s : St} {a b c d : Int} (ha : R7 a) (hb : R7 b) (hc : R7 c) (hd : R7 d) {r : List Int} (hr : Byt r) {k : Nat} (hs : s = ⟨(be7 [a, b, c, d] ++ r).take k, 0⟩) :
    Cut s ((((s.nx 7).nx 7).nx 7).nx 7) (be7 [a, b, c, d]) r k (s.num 7 = a ∧ (s.nx 7).num 7 = b ∧ ((s.nx 7).nx 7).num 7 = c ∧ (((s.nx 7).nx 7).nx 7).num 7 = d) := by
  have e : be7 [a, b, c, d] = Wr.be 7 a ++ be7 [b, c, d] := by simp [be7]
  rw [e] at hs ⊢
  have h1 := St.nx_cut (s := s) (n := 7) (.inr (.inr rfl)) ha.1 ha.2 (Byt.append (be7_byt [b, c, d]) hr) (k := k) (by rw [hs, List.append_assoc])
  exact Cut.trans h1 (fun hne => by rw [St.nx_bad hne, St.nx_bad hne, St.nx_bad hne]) (fun _ he => nx3_cut hb hc hd hr he)
/-- What an entry's parts must be, to be read back. -/
def EdR (x : Ed) : Prop := R7 x.te ∧ (0 ≤ x.ki ∧ x.ki < Wr.p256 1) ∧ x.bs.length < 65536 ∧ Byt x.bs
theorem entBy_byt {x : Ed} (h : EdR x) : Byt (entBy x) := Byt.append (Wr.be_byt 7 _) (Byt.append (Wr.be_byt 1 _) (olay_byt h.2.2.2))
theorem ents_byt {l : List Ed} (h : ∀ x ∈ l, EdR x) : Byt (l.flatMap entBy) := by
  intro y hy
  obtain ⟨x, hx, hy⟩ := List.mem_flatMap.1 hy
  exact entBy_byt (h x hx) y hy
theorem entS_bad {s : St} (h : s.e ≠ 0) : entS s = s := by unfold entS; rw [St.nx_bad h, St.nx_bad h, St.ox_bad h]
theorem readS_bad : ∀ (n : Nat) {s : St}, s.e ≠ 0 → readS s n = s
  | 0, _, _ => rfl
  | n + 1, s, h => by show readS (entS s) n = s; rw [entS_bad h]; exact readS_bad n h
theorem ent_cut {s : St} {x : Ed} (h : EdR x) {r : List Int} (hr : Byt r) {k : Nat} (hs : s = ⟨(entBy x ++ r).take k, 0⟩) :
    Cut s (entS s) (entBy x) r k (s.num 7 = x.te ∧ (s.nx 7).num 1 = x.ki ∧ ((s.nx 7).nx 1).oct = x.bs) := by
  have h1 := St.nx_cut (s := s) (n := 7) (.inr (.inr rfl)) h.1.1 h.1.2 (Byt.append (Byt.append (Wr.be_byt 1 x.ki) (olay_byt h.2.2.2)) hr) (k := k) (by rw [hs]; simp [entBy])
  unfold entBy
  refine Cut.trans h1 (fun hne => by show (((s.nx 7).nx 1).ox).e = _; rw [St.nx_bad hne, St.ox_bad hne]) (fun _ he => ?_)
  have h2 := St.nx_cut (s := s.nx 7) (n := 1) (.inl rfl) h.2.1.1 h.2.1.2 (Byt.append (olay_byt h.2.2.2) hr) (k := k - (Wr.be 7 x.te).length) (by rw [he]; simp)
  exact Cut.trans h2 (fun hne => by show (((s.nx 7).nx 1).ox).e = _; rw [St.ox_bad hne]) (fun _ he2 => St.ox_cut h.2.2.1 h.2.2.2 hr he2)
theorem read_cut : ∀ (l : List Ed) {s : St} (b : Int) (_ : ∀ x ∈ l, EdR x) (_ : ∀ i (hi : i < l.length), l[i].ix = b + i) {r : List Int} (_ : Byt r) {k : Nat} (_ : s = ⟨(l.flatMap entBy ++ r).take k, 0⟩),
    Cut s (readS s l.length) (l.flatMap entBy) r k (readE s b l.length = l)
  | [], s, b, _, _, r, hr, k, hs => .inr ⟨Nat.zero_le _, by rw [hs]; simp [readS], rfl⟩
  | x :: l, s, b, h, hi, r, hr, k, hs => by
    have hx := h x (by simp)
    have hl := fun y hy => h y (List.mem_cons_of_mem x hy)
    have h1 := ent_cut hx (Byt.append (ents_byt hl) hr) (s := s) (k := k) (by rw [hs]; simp)
    have hx0 : x.ix = b := by have := hi 0 (by simp); simpa using this
    have hil : ∀ i (hi2 : i < l.length), l[i].ix = b + 1 + i := fun i hi2 => by
      have := hi (i + 1) (by simpa using hi2)
      simp only [List.getElem_cons_succ] at this
      omega
    have h2 := Cut.trans h1 (s2 := readS (entS s) l.length) (fun hne => by rw [readS_bad _ hne]) (fun _ he => read_cut l (b + 1) hl hil hr he)
    refine h2.mono (fun q => ?_)
    show entE s b :: readE (entS s) (b + 1) l.length = x :: l
    rw [q.2]
    unfold entE
    rw [q.1.1, q.1.2.1, q.1.2.2, ← hx0]
end

section
/-- What a message of a kind is, apart from where it lies: what it has not is zero. -/
theorem norm1 {P : Po} {l : List Ed} (h : May P l) (hk : P.kd = 1) : P.norm = { zPo 1 P.fr P.to P.te with ix := P.ix, lt := P.lt } := by
  obtain ⟨a, b, c, d⟩ := h.zero
  obtain ⟨kd, fr, tq, te, ix, lt, co, ok, hi, EA, en, ec, si, st, sc, SA, sn, sk⟩ := P
  simp only at hk
  subst hk
  simp [Po.bare, Po.nums] at a b c d
  simp [Po.norm, a, b, c, d]
theorem norm2 {P : Po} {l : List Ed} (h : May P l) (hk : P.kd = 2) : P.norm = { zPo 2 P.fr P.to P.te with ok := P.ok } := by
  obtain ⟨a, b, c, d⟩ := h.zero
  obtain ⟨kd, fr, tq, te, ix, lt, co, ok, hi, EA, en, ec, si, st, sc, SA, sn, sk⟩ := P
  simp only at hk
  subst hk
  simp [Po.bare, Po.nums] at a b c d
  simp [Po.norm, a, b, c, d]
theorem norm3 {P : Po} {l : List Ed} (h : May P l) (hk : P.kd = 3) : P.norm = { zPo 3 P.fr P.to P.te with ix := P.ix, lt := P.lt, co := P.co, hi := P.hi, en := P.en } := by
  obtain ⟨a, b, c, d⟩ := h.zero
  obtain ⟨kd, fr, tq, te, ix, lt, co, ok, hi, EA, en, ec, si, st, sc, SA, sn, sk⟩ := P
  simp only at hk
  subst hk
  simp [Po.bare, Po.nums] at a b c d
  simp [Po.norm, a, b, c, d]
theorem norm4 {P : Po} {l : List Ed} (h : May P l) (hk : P.kd = 4) : P.norm = { zPo 4 P.fr P.to P.te with ok := P.ok, ix := P.ix, hi := P.hi } := by
  obtain ⟨a, b, c, d⟩ := h.zero
  obtain ⟨kd, fr, tq, te, ix, lt, co, ok, hi, EA, en, ec, si, st, sc, SA, sn, sk⟩ := P
  simp only at hk
  subst hk
  simp [Po.bare, Po.nums] at a b c d
  simp [Po.norm, a, b, c, d]
theorem norm5 {P : Po} {l : List Ed} (h : May P l) (hk : P.kd = 5) : P.norm = { zPo 5 P.fr P.to P.te with hi := P.hi, si := P.si, st := P.st, sc := P.sc, sn := P.sn } := by
  obtain ⟨a, b, c, d⟩ := h.zero
  obtain ⟨kd, fr, tq, te, ix, lt, co, ok, hi, EA, en, ec, si, st, sc, SA, sn, sk⟩ := P
  simp only at hk
  subst hk
  simp [Po.bare, Po.nums] at a b c d
  simp [Po.norm, a, b, c, d]
theorem norm6 {P : Po} {l : List Ed} (h : May P l) (hk : P.kd = 6) : P.norm = { zPo 6 P.fr P.to P.te with ix := P.ix, hi := P.hi } := by
  obtain ⟨a, b, c, d⟩ := h.zero
  obtain ⟨kd, fr, tq, te, ix, lt, co, ok, hi, EA, en, ec, si, st, sc, SA, sn, sk⟩ := P
  simp only at hk
  subst hk
  simp [Po.bare, Po.nums] at a b c d
  simp [Po.norm, a, b, c, d]
end

section
/-- A message that may be, all of whose bytes are bytes. -/
structure Full (P : Po) (l : List Ed) (d : List Int) : Prop where
  may : May P l
  en : l.length = P.en
  sn : d.length = P.sn
  byl : ∀ x ∈ l, Byt x.bs
  byd : Byt d
theorem p1v : Wr.p256 1 = 256 := by decide
theorem p7v : Wr.p256 7 = 72057594037927936 := by decide
theorem r7_of {v : Int} (h : 0 ≤ v ∧ v ≤ 9007199254740991) : R7 v := by unfold R7; rw [p7v]; omega
theorem May.en0 {P : Po} {l : List Ed} (h : May P l) (k3 : P.kd ≠ 3) : P.en = 0 := by
  obtain ⟨_, _, c, _⟩ := h.zero
  unfold Po.bare at c
  by_cases k1 : P.kd = 1
  · simpa [k1] using c
  · by_cases k2 : P.kd = 2
    · simpa [k2] using c
    · by_cases k4 : P.kd = 4
      · simpa [k4] using c
      · by_cases k5 : P.kd = 5
        · simpa [k5] using c
        · simpa [k1, k2, k3, k4, k5] using c
theorem Full.l0 {P : Po} {l : List Ed} {d : List Int} (h : Full P l d) (k3 : P.kd ≠ 3) : l = [] := List.eq_nil_of_length_eq_zero (by rw [h.en, h.may.en0 k3])
theorem Full.d0 {P : Po} {l : List Ed} {d : List Int} (h : Full P l d) (k5 : P.kd ≠ 5) : d = [] := List.eq_nil_of_length_eq_zero (by
  rw [h.sn]; rcases h.may.snap0 with h | h; exact absurd h.1 k5; exact h.2.2.2.2)
theorem Full.edr {P : Po} {l : List Ed} {d : List Int} (h : Full P l d) : ∀ x ∈ l, EdR x := by
  intro x hx
  have hb := h.byl x hx
  obtain ⟨k, hk, rfl⟩ := List.getElem_of_mem hx
  have hf := ents_facts P.te h.may.te.2 l (P.ix + 1) P.lt h.may.lt.1 h.may.ents k hk
  have := h.may.te
  exact ⟨r7_of (by omega), ⟨by omega, by rw [p1v]; omega⟩, by omega, hb⟩
theorem mx_cut {s : St} {n : Int} (h0 : 0 ≤ n) (h8 : n ≤ 8) {r : List Int} (hr : Byt r) {k : Nat} (hs : s = ⟨(Wr.be 1 n ++ r).take k, 0⟩) : Cut s s.mx (Wr.be 1 n) r k (s.num 1 = n) := by
  have h1 := St.nx_cut (n := 1) (.inl rfl) h0 (by rw [p1v]; omega) hr hs
  rcases h1 with ⟨h, he⟩ | ⟨h, he, hq⟩
  · exact .inl ⟨h, by show ((s.nx 1).fail _ 4).e = 3; rw [St.fail_bad (by rw [he]; decide)]; exact he⟩
  · refine .inr ⟨h, ?_, hq⟩
    show (s.nx 1).fail _ 4 = _
    rw [decide_eq_false (by rw [hq]; omega)]
    exact he
theorem body_cut {P : Po} {l : List Ed} {d : List Int} (h : Full P l d) {s : St} {r : List Int} (hr : Byt r) {k : Nat} (hs : s = ⟨(bodyB P l d ++ r).take k, 0⟩) :
    Cut s (bS P.kd s) (bodyB P l d) r k (bP P.kd P.fr P.to P.te s = P.norm ∧ bL P.kd s = l ∧ bD P.kd s = d) := by
  have hm := h.may
  have hix := r7_of hm.ix
  have hte := hm.te
  have hlt := r7_of (v := P.lt) (by have := hm.lt; omega)
  have hco := r7_of hm.co
  have hhi := r7_of hm.hi
  have hkd := hm.kd
  by_cases k1 : P.kd = 1
  · have eb : bodyB P l d = be7 [P.ix, P.lt] := by unfold bodyB; rw [if_pos k1]
    have e1 : bS P.kd s = (s.nx 7).nx 7 := by unfold bS; rw [if_pos k1]; rfl
    rw [eb] at hs ⊢
    rw [e1]
    refine (nx2_cut hix hlt hr hs).mono (fun q => ⟨?_, ?_, ?_⟩)
    · rw [norm1 hm k1]; unfold bP rP1; rw [if_pos k1, q.1, q.2]
    · unfold bL; rw [if_neg (by omega), h.l0 (by omega)]
    · unfold bD; rw [if_neg (by omega), h.d0 (by omega)]
  · by_cases k2 : P.kd = 2
    · have eb : bodyB P l d = okB P.ok := by unfold bodyB; rw [if_neg k1, if_pos k2]
      have e1 : bS P.kd s = s.fx := by unfold bS; rw [if_neg k1, if_pos k2]; rfl
      rw [eb] at hs ⊢
      rw [e1]
      refine (St.fx_cut P.ok hr hs).mono (fun q => ⟨?_, ?_, ?_⟩)
      · rw [norm2 hm k2]; unfold bP rP2; rw [if_neg k1, if_pos k2, q]
      · unfold bL; rw [if_neg (by omega), h.l0 (by omega)]
      · unfold bD; rw [if_neg (by omega), h.d0 (by omega)]
    · by_cases k3 : P.kd = 3
      · have eb : bodyB P l d = be7 [P.ix, P.lt, P.co, P.hi] ++ (Wr.be 1 l.length ++ l.flatMap entBy) := by unfold bodyB; rw [if_neg k1, if_neg k2, if_pos k3]
        have e1 : bS P.kd s = rS3 s := by unfold bS; rw [if_neg k1, if_neg k2, if_pos k3]
        have hE := h.edr
        have h8 := hm.most
        rw [eb] at hs ⊢
        rw [e1]
        have hb2 : Byt (Wr.be 1 (l.length : Int) ++ l.flatMap entBy) := Byt.append (Wr.be_byt 1 _) (ents_byt hE)
        have c1 := nx4_cut hix hlt hco hhi (Byt.append hb2 hr) (s := s) (k := k) (by rw [hs]; simp)
        have c2 : Cut s (rS3 s) (be7 [P.ix, P.lt, P.co, P.hi] ++ (Wr.be 1 (l.length : Int) ++ l.flatMap entBy)) r k _ := Cut.trans c1 (R := rN3 s = l.length ∧ rE3 s = l) (fun hne => by
            have hmx : (rS3a s).mx = rS3a s := by unfold St.mx; rw [St.nx_bad (by exact hne), St.fail_bad (by exact hne)]
            unfold rS3
            rw [hmx, readS_bad _ (by exact hne)]
            rfl) (fun q he => by
            have c3 := mx_cut (s := rS3a s) (n := l.length) (by omega) (by omega) (Byt.append (ents_byt hE) hr) (k := k - (be7 [P.ix, P.lt, P.co, P.hi]).length) (by rw [show rS3a s = (((s.nx 7).nx 7).nx 7).nx 7 from rfl, he]; simp)
            have hN : (rS3a s).num 1 = l.length → (rS3a s).mx.e = 0 → rN3 s = l.length := by intro a b; unfold rN3; rw [if_pos b, a]; simp
            have c4 := Cut.trans c3 (s2 := rS3 s) (R := rN3 s = l.length ∧ rE3 s = l) (fun hne => by unfold rS3; rw [readS_bad _ hne]) (fun q2 he2 => by
              have hn := hN q2 (by rw [he2])
              have c5 := read_cut l (s := (rS3a s).mx) (P.ix + 1) hE (fun i hi => (ents_facts P.te hm.te.2 l (P.ix + 1) P.lt hm.lt.1 hm.ents i hi).1) hr he2
              unfold rS3
              rw [hn]
              refine c5.mono (fun q3 => ⟨rfl, ?_⟩)
              unfold rE3
              rw [hn, q.1, q3])
            exact c4.mono (fun x => x.2))
        refine c2.mono (fun q => ⟨?_, ?_, ?_⟩)
        · rw [norm3 hm k3]; unfold bP rP3a; rw [if_neg k1, if_neg k2, if_pos k3, q.2.1, q.1.1, q.1.2.1, q.1.2.2.1, q.1.2.2.2, h.en]
        · unfold bL; rw [if_pos k3, q.2.2]
        · unfold bD; rw [if_neg (by omega), h.d0 (by omega)]
      · by_cases k4 : P.kd = 4
        · have eb : bodyB P l d = okB P.ok ++ be7 [P.ix, P.hi] := by unfold bodyB; rw [if_neg k1, if_neg k2, if_neg k3, if_pos k4]
          have e1 : bS P.kd s = (s.fx.nx 7).nx 7 := by unfold bS; rw [if_neg k1, if_neg k2, if_neg k3, if_pos k4]; rfl
          rw [eb] at hs ⊢
          rw [e1]
          have c1 := St.fx_cut P.ok (Byt.append (be7_byt [P.ix, P.hi]) hr) (s := s) (k := k) (by rw [hs]; simp [okB])
          have c2 : Cut s ((s.fx.nx 7).nx 7) (okB P.ok ++ be7 [P.ix, P.hi]) r k _ := Cut.trans c1 (fun hne => by rw [St.nx_bad hne, St.nx_bad hne]) (fun _ he => nx2_cut hix hhi hr he)
          refine c2.mono (fun q => ⟨?_, ?_, ?_⟩)
          · rw [norm4 hm k4]; unfold bP rP4; rw [if_neg k1, if_neg k2, if_neg k3, if_pos k4, q.1, q.2.1, q.2.2]
          · unfold bL; rw [if_neg (by omega), h.l0 (by omega)]
          · unfold bD; rw [if_neg (by omega), h.d0 (by omega)]
        · by_cases k5 : P.kd = 5
          · have hs5 := hm.snap0
            have hsi := r7_of (v := P.si) (by omega)
            have hst := r7_of (v := P.st) (by omega)
            have hsn := h.sn
            have eb : bodyB P l d = be7 [P.hi, P.si, P.st] ++ (Wr.be 1 P.sc ++ olay d) := by unfold bodyB; rw [if_neg k1, if_neg k2, if_neg k3, if_neg k4, if_pos k5]
            have e1 : bS P.kd s = ((((s.nx 7).nx 7).nx 7).nx 1).ox := by unfold bS; rw [if_neg k1, if_neg k2, if_neg k3, if_neg k4, if_pos k5]; rfl
            rw [eb] at hs ⊢
            rw [e1]
            have c1 := nx3_cut hhi hsi hst (Byt.append (Byt.append (Wr.be_byt 1 P.sc) (olay_byt h.byd)) hr) (s := s) (k := k) (by rw [hs]; simp)
            have c2 := Cut.trans c1 (s2 := ((((s.nx 7).nx 7).nx 7).nx 1).ox) (fun hne => by rw [St.nx_bad hne, St.ox_bad hne]) (fun _ he => by
              have c3 := St.nx_cut (s := ((s.nx 7).nx 7).nx 7) (n := 1) (.inl rfl) (v := P.sc) (by omega) (by rw [p1v]; omega) (Byt.append (olay_byt h.byd) hr) (k := k - (be7 [P.hi, P.si, P.st]).length) (by rw [he]; simp)
              exact Cut.trans c3 (fun hne => by rw [St.ox_bad hne]) (fun _ he2 => St.ox_cut (by omega) h.byd hr he2))
            refine c2.mono (fun q => ⟨?_, ?_, ?_⟩)
            · rw [norm5 hm k5]; unfold bP rP5; rw [if_neg k1, if_neg k2, if_neg k3, if_neg k4, if_pos k5, q.1.1, q.1.2.1, q.1.2.2, q.2.1, q.2.2, hsn]
            · unfold bL; rw [if_neg (by omega), h.l0 (by omega)]
            · unfold bD; rw [if_pos k5]; exact q.2.2
          · have k6 : P.kd = 6 := by omega
            have eb : bodyB P l d = be7 [P.ix, P.hi] := by unfold bodyB; rw [if_neg k1, if_neg k2, if_neg k3, if_neg k4, if_neg k5]
            have e1 : bS P.kd s = (s.nx 7).nx 7 := by unfold bS; rw [if_neg k1, if_neg k2, if_neg k3, if_neg k4, if_neg k5, if_pos k6]; rfl
            rw [eb] at hs ⊢
            rw [e1]
            refine (nx2_cut hix hhi hr hs).mono (fun q => ⟨?_, ?_, ?_⟩)
            · rw [norm6 hm k6]; unfold bP rP6; rw [if_neg k1, if_neg k2, if_neg k3, if_neg k4, if_neg k5, if_pos k6, q.1, q.2]
            · unfold bL; rw [if_neg (by omega), h.l0 (by omega)]
            · unfold bD; rw [if_neg (by omega), h.d0 (by omega)]
theorem body_byt {P : Po} {l : List Ed} {d : List Int} (h : Full P l d) : Byt (bodyB P l d) := by
  unfold bodyB
  split
  · exact be7_byt _
  · split
    · exact okB_byt _
    · split
      · exact Byt.append (be7_byt _) (Byt.append (Wr.be_byt 1 _) (ents_byt h.edr))
      · split
        · exact Byt.append (okB_byt _) (be7_byt _)
        · split
          · exact Byt.append (be7_byt _) (Byt.append (Wr.be_byt 1 _) (olay_byt h.byd))
          · exact be7_byt _
theorem pack_byt {P : Po} {l : List Ed} {d : List Int} (h : Full P l d) : Byt (packB P l d) :=
  Byt.append (Wr.be_byt 1 P.kd) (Byt.append (Wr.be_byt 1 P.fr) (Byt.append (Wr.be_byt 1 P.to) (Byt.append (Wr.be_byt 7 P.te) (body_byt h))))
/-- The bytes of a message, cut behind k, with more behind them. -/
theorem unpack_cut {P : Po} {l : List Ed} {d : List Int} (h : Full P l d) (hc : chkB P l = true) {r : List Int} (hr : Byt r) (k : Nat) {ys : List Int} (hy : ys = (packB P l d ++ r).take k) :
    (k < (packB P l d).length ∧ (uZ ys).e = 3) ∨ ((packB P l d).length ≤ k ∧ (r.take (k - (packB P l d).length) ≠ [] → (uZ ys).e = 4) ∧ (r.take (k - (packB P l d).length) = [] → (uZ ys).e = 0 ∧ uP0 ys = P.norm ∧ uL0 ys = l ∧ uD0 ys = d)) := by
  have hm := h.may
  have hkd := hm.kd
  have hfr := hm.fr
  have htq := hm.tq
  have hte := r7_of hm.te
  have hbb := body_byt h
  have b4 := Byt.append hbb hr
  have b3 := Byt.append (Wr.be_byt 7 P.te) b4
  have b2 := Byt.append (Wr.be_byt 1 P.to) b3
  have b1 := Byt.append (Wr.be_byt 1 P.fr) b2
  have c1 := St.nx_cut (s := ⟨ys, 0⟩) (n := 1) (.inl rfl) (v := P.kd) (by omega) (by rw [p1v]; omega) b1 (k := k) (by rw [hy]; simp [packB])
  have cA : Cut ⟨ys, 0⟩ (uA ys) (Wr.be 1 P.kd) (Wr.be 1 P.fr ++ (Wr.be 1 P.to ++ (Wr.be 7 P.te ++ (bodyB P l d ++ r)))) k (uKd ys = P.kd) := by
    rcases c1 with ⟨g, he⟩ | ⟨g, he, hq⟩
    · exact .inl ⟨g, by unfold uA; rw [St.fail_bad (by rw [he]; decide)]; exact he⟩
    · refine .inr ⟨g, ?_, hq⟩
      have : wiB (uKd ys) 1 6 = true := by rw [show uKd ys = P.kd from hq]; exact wiB_iff.2 hkd
      unfold uA
      rw [this]
      exact he
  have cH := Cut.trans (b := Wr.be 1 P.fr ++ (Wr.be 1 P.to ++ (Wr.be 7 P.te ++ bodyB P l d))) (r := r) (s2 := uB ys) (by simpa using cA) (fun hne => by
      have e : uH ys = uA ys := by unfold uH; rw [St.nx_bad hne, St.nx_bad hne, St.nx_bad hne]
      unfold uB
      rw [e, bS_bad hne]) (R := uP0 ys = P.norm ∧ uL0 ys = l ∧ uD0 ys = d) (fun qk he => by
    have d1 := St.nx_cut (s := uA ys) (n := 1) (.inl rfl) (v := P.fr) (by omega) (by rw [p1v]; omega) b2 (k := k - (Wr.be 1 P.kd).length) (by rw [he]; simp)
    refine (Cut.trans (b := Wr.be 1 P.to ++ (Wr.be 7 P.te ++ bodyB P l d)) (r := r) (s2 := uB ys) (by simpa using d1) (fun hne => by
      have e : uH ys = (uA ys).nx 1 := by unfold uH; rw [St.nx_bad hne, St.nx_bad hne]
      unfold uB
      rw [e, bS_bad hne]) (R := (uA ys).num 1 = P.fr → uP0 ys = P.norm ∧ uL0 ys = l ∧ uD0 ys = d) (fun q1 he1 => ?_)).mono (fun q => q.2 q.1)
    have d2 := St.nx_cut (s := (uA ys).nx 1) (n := 1) (.inl rfl) (v := P.to) (by omega) (by rw [p1v]; omega) b3 (k := k - (Wr.be 1 P.kd).length - (Wr.be 1 P.fr).length) (by rw [he1]; simp)
    refine (Cut.trans (b := Wr.be 7 P.te ++ bodyB P l d) (r := r) (s2 := uB ys) (by simpa using d2) (fun hne => by
      have e : uH ys = ((uA ys).nx 1).nx 1 := by unfold uH; rw [St.nx_bad hne]
      unfold uB
      rw [e, bS_bad hne]) (R := ((uA ys).nx 1).num 1 = P.to → (uA ys).num 1 = P.fr → uP0 ys = P.norm ∧ uL0 ys = l ∧ uD0 ys = d) (fun q2 he2 => ?_)).mono (fun q => q.2 q.1)
    have d3 := St.nx_cut (s := ((uA ys).nx 1).nx 1) (n := 7) (.inr (.inr rfl)) (v := P.te) hte.1 hte.2 b4 (k := k - (Wr.be 1 P.kd).length - (Wr.be 1 P.fr).length - (Wr.be 1 P.to).length) (by rw [he2]; simp)
    refine (Cut.trans (b := bodyB P l d) (r := r) (s2 := uB ys) d3 (fun hne => by
      unfold uB
      rw [show uH ys = (((uA ys).nx 1).nx 1).nx 7 from rfl, bS_bad hne]) (R := (((uA ys).nx 1).nx 1).num 7 = P.te → ((uA ys).nx 1).num 1 = P.to → (uA ys).num 1 = P.fr → uP0 ys = P.norm ∧ uL0 ys = l ∧ uD0 ys = d) (fun q3 he3 => ?_)).mono (fun q => q.2 q.1)
    have d4 := body_cut h hr (s := uH ys) (k := k - (Wr.be 1 P.kd).length - (Wr.be 1 P.fr).length - (Wr.be 1 P.to).length - (Wr.be 7 P.te).length) (by rw [← he3]; rfl)
    unfold uB
    rw [qk]
    refine d4.mono (fun q f3 f2 f1 => ?_)
    unfold uP0 uL0 uD0
    rw [qk, f1, f2, f3]
    exact q)
  have el : (Wr.be 1 P.kd ++ (Wr.be 1 P.fr ++ (Wr.be 1 P.to ++ (Wr.be 7 P.te ++ bodyB P l d)))) = packB P l d := rfl
  rw [el] at cH
  rcases cH with ⟨g, he⟩ | ⟨g, he, _, hq⟩
  · exact .inl ⟨g, by unfold uZ; rw [St.fail_bad (by rw [he]; decide)]; exact he⟩
  · refine .inr ⟨g, fun hn => ?_, fun hn => ?_⟩
    · unfold uZ
      have : decide (0 < ((uB ys).l.length : Int)) = true := by
        rw [he]
        have := List.length_pos_iff.2 hn
        exact decide_eq_true (by show (0 : Int) < ((r.take (k - (packB P l d).length)).length : Int); omega)
      rw [this, Bool.true_or]
      unfold St.fail
      rw [if_pos rfl, he, if_pos rfl]
    · refine ⟨?_, hq⟩
      unfold uZ
      have h1 : decide (0 < ((uB ys).l.length : Int)) = false := by rw [he, hn]; rfl
      have h2 : chkE (uP0 ys) (uL0 ys) = 0 := by rw [hq.1, hq.2.1, chk_norm]; unfold chkE; rw [if_pos hc]
      rw [h1, h2]
      show (uB ys).e = 0
      rw [he]
end

section
theorem nx2_inv {s : St} (hb : s.Ok) (h : ((s.nx 7).nx 7).e = 0) : s.e = 0 ∧ s.l = be7 [s.num 7, (s.nx 7).num 7] ++ ((s.nx 7).nx 7).l := by
  have h1 := St.nx_ok h
  obtain ⟨a, _⟩ := St.nx_inv (n := 7) (.inr (.inr rfl)) hb h1
  obtain ⟨b, _⟩ := St.nx_inv (n := 7) (.inr (.inr rfl)) (hb.nx 7) h
  refine ⟨St.nx_ok h1, ?_⟩
  rw [show be7 [s.num 7, (s.nx 7).num 7] = Wr.be 7 (s.num 7) ++ Wr.be 7 ((s.nx 7).num 7) by simp [be7], List.append_assoc, ← b]
  exact a
theorem nx3_inv {s : St} (hb : s.Ok) (h : (((s.nx 7).nx 7).nx 7).e = 0) : s.e = 0 ∧ s.l = be7 [s.num 7, (s.nx 7).num 7, ((s.nx 7).nx 7).num 7] ++ (((s.nx 7).nx 7).nx 7).l := by
  obtain ⟨h1, b⟩ := nx2_inv (hb.nx 7) h
  obtain ⟨a, _⟩ := St.nx_inv (n := 7) (.inr (.inr rfl)) hb h1
  refine ⟨St.nx_ok h1, ?_⟩
  rw [show be7 [s.num 7, (s.nx 7).num 7, ((s.nx 7).nx 7).num 7] = Wr.be 7 (s.num 7) ++ be7 [(s.nx 7).num 7, ((s.nx 7).nx 7).num 7] by simp [be7], List.append_assoc, ← b]
  exact a
theorem nx4_inv {s : St} (hb : s.Ok) (h : ((((s.nx 7).nx 7).nx 7).nx 7).e = 0) : s.e = 0 ∧ s.l = be7 [s.num 7, (s.nx 7).num 7, ((s.nx 7).nx 7).num 7, (((s.nx 7).nx 7).nx 7).num 7] ++ ((((s.nx 7).nx 7).nx 7).nx 7).l := by
  obtain ⟨h1, b⟩ := nx3_inv (hb.nx 7) h
  obtain ⟨a, _⟩ := St.nx_inv (n := 7) (.inr (.inr rfl)) hb h1
  refine ⟨St.nx_ok h1, ?_⟩
  rw [show be7 [s.num 7, (s.nx 7).num 7, ((s.nx 7).nx 7).num 7, (((s.nx 7).nx 7).nx 7).num 7] = Wr.be 7 (s.num 7) ++ be7 [(s.nx 7).num 7, ((s.nx 7).nx 7).num 7, (((s.nx 7).nx 7).nx 7).num 7] by simp [be7], List.append_assoc, ← b]
  exact a
theorem entS_ok {s : St} (h : s.Ok) : (entS s).Ok := ((h.nx 7).nx 1).ox
theorem ent_inv {s : St} (b : Int) (hb : s.Ok) (h : (entS s).e = 0) : s.e = 0 ∧ s.l = entBy (entE s b) ++ (entS s).l := by
  obtain ⟨h2, c⟩ := St.ox_inv ((hb.nx 7).nx 1) h
  have h1 := St.nx_ok h2
  obtain ⟨a, _⟩ := St.nx_inv (n := 7) (.inr (.inr rfl)) hb h1
  obtain ⟨d, _⟩ := St.nx_inv (n := 1) (.inl rfl) (hb.nx 7) h2
  refine ⟨St.nx_ok h1, ?_⟩
  unfold entBy entE
  simp only [List.append_assoc]
  rw [show (entS s).l = ((s.nx 7).nx 1).ox.l from rfl, ← c, ← d]
  exact a
theorem read_inv : ∀ (n : Nat) {s : St} (b : Int), s.Ok → (readS s n).e = 0 → s.e = 0 ∧ s.l = (readE s b n).flatMap entBy ++ (readS s n).l ∧ (readE s b n).length = n
  | 0, s, b, hb, h => ⟨h, rfl, rfl⟩
  | n + 1, s, b, hb, h => by
    obtain ⟨h1, h2, h3⟩ := read_inv n (b + 1) (entS_ok hb) h
    obtain ⟨g1, g2⟩ := ent_inv b hb h1
    refine ⟨g1, ?_, ?_⟩
    · show s.l = (entE s b :: readE (entS s) (b + 1) n).flatMap entBy ++ (readS (entS s) n).l
      rw [List.flatMap_cons, List.append_assoc, ← h2]
      exact g2
    · show (entE s b :: readE (entS s) (b + 1) n).length = n + 1
      rw [List.length_cons, h3]
theorem mx_inv {s : St} (hb : s.Ok) (h : s.mx.e = 0) : s.e = 0 ∧ s.l = Wr.be 1 (s.num 1) ++ s.mx.l ∧ 0 ≤ s.num 1 := by
  obtain ⟨h1, h2, h3⟩ := St.fail_ok (by decide) h
  obtain ⟨a, b, c⟩ := St.nx_inv (n := 1) (.inl rfl) hb h1
  exact ⟨St.nx_ok h1, by rw [show s.mx = s.nx 1 from h3]; exact a, b⟩
theorem mx_bad {s : St} (h : s.e ≠ 0) : s.mx = s := by unfold St.mx; rw [St.nx_bad h, St.fail_bad h]
theorem mx_Ok {s : St} (h : s.Ok) : s.mx.Ok := (h.nx 1).fail _ _
theorem body_inv {kd fr tq te : Int} (hk : 1 ≤ kd ∧ kd ≤ 6) {s : St} (hb : s.Ok) (h : (bS kd s).e = 0) :
    s.e = 0 ∧ s.l = bodyB (bP kd fr tq te s) (bL kd s) (bD kd s) ++ (bS kd s).l ∧ (bL kd s).length = (bP kd fr tq te s).en ∧ (bD kd s).length = (bP kd fr tq te s).sn := by
  by_cases k1 : kd = 1
  · subst k1
    obtain ⟨a, b⟩ := nx2_inv hb h
    exact ⟨a, b, rfl, rfl⟩
  · by_cases k2 : kd = 2
    · subst k2
      obtain ⟨a, b⟩ := St.fx_inv hb h
      exact ⟨a, b, rfl, rfl⟩
    · by_cases k3 : kd = 3
      · subst k3
        have h' : (rS3 s).e = 0 := h
        have ok4 : (rS3a s).Ok := (((hb.nx 7).nx 7).nx 7).nx 7
        obtain ⟨a1, a2, a3⟩ := read_inv (rN3 s) (s.num 7 + 1) (mx_Ok ok4) h'
        obtain ⟨b1, b2, b3⟩ := mx_inv ok4 a1
        obtain ⟨c1, c2⟩ := nx4_inv hb b1
        have hn : ((rN3 s : Nat) : Int) = (rS3a s).num 1 := by unfold rN3; rw [if_pos a1]; omega
        refine ⟨c1, ?_, a3, rfl⟩
        have e1 : bodyB (bP 3 fr tq te s) (bL 3 s) (bD 3 s) = be7 [s.num 7, (s.nx 7).num 7, ((s.nx 7).nx 7).num 7, (((s.nx 7).nx 7).nx 7).num 7] ++ (Wr.be 1 (rE3 s).length ++ (rE3 s).flatMap entBy) := rfl
        have e2 : (rE3 s).length = rN3 s := a3
        rw [e1, e2, hn]
        have e3 : (bS 3 s).l = (rS3 s).l := rfl
        rw [e3]
        simp only [List.append_assoc]
        rw [show (rE3 s).flatMap entBy ++ (rS3 s).l = (rS3a s).mx.l from a2.symm, ← b2]
        exact c2
      · by_cases k4 : kd = 4
        · subst k4
          obtain ⟨a1, a2⟩ := nx2_inv hb.fx h
          obtain ⟨b1, b2⟩ := St.fx_inv hb a1
          refine ⟨b1, ?_, rfl, rfl⟩
          have e1 : bodyB (bP 4 fr tq te s) (bL 4 s) (bD 4 s) = okB s.flag ++ be7 [s.fx.num 7, (s.fx.nx 7).num 7] := rfl
          have e3 : (bS 4 s).l = ((s.fx.nx 7).nx 7).l := rfl
          rw [e1, e3, List.append_assoc, ← a2]
          exact b2
        · by_cases k5 : kd = 5
          · subst k5
            have ok3 : (((s.nx 7).nx 7).nx 7).Ok := ((hb.nx 7).nx 7).nx 7
            obtain ⟨a1, a2⟩ := St.ox_inv (ok3.nx 1) h
            obtain ⟨b1, _⟩ := St.nx_inv (n := 1) (.inl rfl) ok3 a1
            obtain ⟨c1, c2⟩ := nx3_inv hb (St.nx_ok a1)
            refine ⟨c1, ?_, rfl, rfl⟩
            have e1 : bodyB (bP 5 fr tq te s) (bL 5 s) (bD 5 s) = be7 [s.num 7, (s.nx 7).num 7, ((s.nx 7).nx 7).num 7] ++ (Wr.be 1 ((((s.nx 7).nx 7).nx 7).num 1) ++ olay ((((s.nx 7).nx 7).nx 7).nx 1).oct) := rfl
            have e3 : (bS 5 s).l = ((((s.nx 7).nx 7).nx 7).nx 1).ox.l := rfl
            rw [e1, e3]
            simp only [List.append_assoc]
            rw [← a2, ← b1]
            exact c2
          · have k6 : kd = 6 := by omega
            subst k6
            obtain ⟨a, b⟩ := nx2_inv hb h
            exact ⟨a, b, rfl, rfl⟩
/-- Bytes that are a message. -/
theorem unpack_inv {ys : List Int} (hy : Byt ys) (h : (uZ ys).e = 0) : chkB (uP0 ys) (uL0 ys) = true ∧ (uL0 ys).length = (uP0 ys).en ∧ (uD0 ys).length = (uP0 ys).sn ∧ ys = packB (uP0 ys) (uL0 ys) (uD0 ys) := by
  have hok : St.Ok ⟨ys, 0⟩ := hy
  obtain ⟨h1, h2, h3⟩ := St.fail_ok (by decide) h
  simp only [Bool.or_eq_false_iff, decide_eq_false_iff_not, Bool.not_eq_false', beq_iff_eq] at h2
  have okA : (uA ys).Ok := (hok.nx 1).fail _ _
  have okH : (uH ys).Ok := ((okA.nx 1).nx 1).nx 7
  have hkA : (uA ys).e = 0 → wiB (uKd ys) 1 6 = true ∧ uA ys = (⟨ys, 0⟩ : St).nx 1 := by
    intro h
    obtain ⟨a, b, c⟩ := St.fail_ok (by decide) h
    exact ⟨by simpa using b, c⟩
  have hH : (uH ys).e = 0 := by
    by_cases hh : (uH ys).e = 0
    · exact hh
    · rw [show uB ys = bS (uKd ys) (uH ys) from rfl, bS_bad hh] at h1; exact absurd h1 hh
  have i2 := St.nx_ok (s := ((uA ys).nx 1).nx 1) (n := 7) hH
  have i1 := St.nx_ok i2
  have i0 := St.nx_ok i1
  obtain ⟨hkd, eA⟩ := hkA i0
  obtain ⟨b1, b2, b3, b4⟩ := body_inv (fr := (uA ys).num 1) (tq := ((uA ys).nx 1).num 1) (te := (((uA ys).nx 1).nx 1).num 7) (wiB_iff.1 hkd) okH h1
  obtain ⟨c3, _⟩ := St.nx_inv (n := 7) (.inr (.inr rfl)) ((okA.nx 1).nx 1) hH
  obtain ⟨c2, _⟩ := St.nx_inv (n := 1) (.inl rfl) (okA.nx 1) i2
  obtain ⟨c1, _⟩ := St.nx_inv (n := 1) (.inl rfl) okA i1
  obtain ⟨c0, _⟩ := St.nx_inv (s := ⟨ys, 0⟩) (n := 1) (.inl rfl) hok (by rw [← eA]; exact i0)
  refine ⟨?_, b3, b4, ?_⟩
  · have := h2.2
    unfold chkE at this
    split at this
    · assumption
    · omega
  · have hl : (bS (uKd ys) (uH ys)).l = [] := by
      have := h2.1
      rw [show uB ys = bS (uKd ys) (uH ys) from rfl] at this
      exact List.eq_nil_of_length_eq_zero (by omega)
    rw [hl, List.append_nil] at b2
    have hk1 : 1 ≤ uKd ys ∧ uKd ys ≤ 6 := wiB_iff.1 hkd
    have f : (uP0 ys).kd = uKd ys ∧ (uP0 ys).fr = (uA ys).num 1 ∧ (uP0 ys).to = ((uA ys).nx 1).num 1 ∧ (uP0 ys).te = (((uA ys).nx 1).nx 1).num 7 := by
      unfold uP0 bP
      by_cases k1 : uKd ys = 1
      · rw [if_pos k1]; exact ⟨k1.symm, rfl, rfl, rfl⟩
      · rw [if_neg k1]
        by_cases k2 : uKd ys = 2
        · rw [if_pos k2]; exact ⟨k2.symm, rfl, rfl, rfl⟩
        · rw [if_neg k2]
          by_cases k3 : uKd ys = 3
          · rw [if_pos k3]; exact ⟨k3.symm, rfl, rfl, rfl⟩
          · rw [if_neg k3]
            by_cases k4 : uKd ys = 4
            · rw [if_pos k4]; exact ⟨k4.symm, rfl, rfl, rfl⟩
            · rw [if_neg k4]
              by_cases k5 : uKd ys = 5
              · rw [if_pos k5]; exact ⟨k5.symm, rfl, rfl, rfl⟩
              · rw [if_neg k5, if_pos (by omega)]; exact ⟨by show (6 : Int) = _; omega, rfl, rfl, rfl⟩
    unfold packB
    rw [f.1, f.2.1, f.2.2.1, f.2.2.2]
    have e0 : ys = Wr.be 1 (uKd ys) ++ ((⟨ys, 0⟩ : St).nx 1).l := c0
    have eb : bodyB (uP0 ys) (uL0 ys) (uD0 ys) = (uH ys).l := b2.symm
    rw [eb, show (uH ys).l = ((((uA ys).nx 1).nx 1).nx 7).l from rfl, ← c3, ← c2, ← c1, eA]
    exact e0
theorem pack_norm (P : Po) (l : List Ed) (d : List Int) : packB P.norm l d = packB P l d := rfl
theorem may_norm {P : Po} {l : List Ed} : chkB P.norm l = chkB P l := by
  have := chk_norm P l
  unfold chkE at this
  cases h1 : chkB P.norm l <;> cases h2 : chkB P l <;> simp [h1, h2] at this ⊢
end
end Go.Proofs.Ytnphnaggamfoiaa
