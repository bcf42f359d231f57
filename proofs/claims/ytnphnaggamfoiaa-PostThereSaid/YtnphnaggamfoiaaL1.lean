/- A message's bytes, piece by piece (plain words, no walk). -/
import Derived.Test.YtnphnaggamfoiaaD7
import Derived.Test.YtnphnaggamfoiaaL0
namespace Go.Proofs.Ytnphnaggamfoiaa
open Go.RowKit
set_option maxRecDepth 20000
set_option linter.unusedVariables false
set_option linter.unusedSimpArgs false

theorem putL_app {n : Nat} (hn : Sz n) {v : Int} (h0 : 0 ≤ v) (h1 : v < Wr.p256 n) (xs : List Int) : Wr.putL xs v n = xs ++ Wr.be n v := by
  have h := hn.rng
  have he : Wr.putE v n = 0 := by unfold Wr.putE; rw [if_neg (by omega), if_neg (by rw [Int.toNat_natCast]; omega)]
  unfold Wr.putL
  rw [if_pos he, Int.toNat_natCast]
theorem octL_app {a : List Int} (h : a.length < 65536) (xs : List Int) : Wr.octL xs a = xs ++ olay a := by
  unfold Wr.octL olay
  rw [if_neg (by omega)]
/-- Numbers of seven bytes, one by one. -/
def be7 (L : List Int) : List Int := L.flatMap (Wr.be 7)
theorem putsL_app : ∀ (L : List (Nat × Int)) (xs : List Int), (∀ x ∈ L, 0 ≤ x.2 ∧ x.2 < Wr.p256 7) → putsL xs L = xs ++ be7 (L.map (·.2))
  | [], xs, h => by simp [putsL, be7]
  | x :: L, xs, h => by
    have hx := h x (by simp)
    have ih := putsL_app L (xs ++ Wr.be 7 x.2) (fun y hy => h y (by simp [hy]))
    have e := putL_app (n := 7) (.inr (.inr rfl)) hx.1 hx.2 xs
    unfold putsL at ih ⊢
    rw [List.foldl_cons, show Wr.putL xs x.2 7 = Wr.putL xs x.2 ((7 : Nat) : Int) from rfl, e, ih]
    simp [be7]
def okB (b : Bool) : List Int := if b then [1] else [0]
def entBy (x : Ed) : List Int := Wr.be 7 x.te ++ (Wr.be 1 x.ki ++ olay x.bs)
def bodyB (P : Po) (l : List Ed) (d : List Int) : List Int :=
  if P.kd = 1 then be7 [P.ix, P.lt] else if P.kd = 2 then okB P.ok else if P.kd = 3 then be7 [P.ix, P.lt, P.co, P.hi] ++ (Wr.be 1 l.length ++ l.flatMap entBy)
  else if P.kd = 4 then okB P.ok ++ be7 [P.ix, P.hi] else if P.kd = 5 then be7 [P.hi, P.si, P.st] ++ (Wr.be 1 P.sc ++ olay d) else be7 [P.ix, P.hi]
def packB (P : Po) (l : List Ed) (d : List Int) : List Int := Wr.be 1 P.kd ++ (Wr.be 1 P.fr ++ (Wr.be 1 P.to ++ (Wr.be 7 P.te ++ bodyB P l d)))
theorem putL_ok1 (b : Bool) (xs : List Int) : Wr.putL xs (if b then 1 else 0) 1 = xs ++ okB b := by
  rw [show (1 : Int) = ((1 : Nat) : Int) from rfl, putL_app (n := 1) (.inl rfl) (by cases b <;> decide) (by cases b <;> decide)]
  cases b <;> rfl
theorem entsL_app : ∀ (l : List Ed) (xs : List Int), (∀ x ∈ l, (0 ≤ x.te ∧ x.te < Wr.p256 7) ∧ (0 ≤ x.ki ∧ x.ki < Wr.p256 1) ∧ x.bs.length < 65536) → entsL xs l = xs ++ l.flatMap entBy
  | [], xs, h => by simp [entsL]
  | x :: l, xs, h => by
    have hx := h x (by simp)
    have ih := entsL_app l (xs ++ entBy x) (fun y hy => h y (by simp [hy]))
    have e : entL xs x = xs ++ entBy x := by
      unfold entL entBy
      rw [show (7 : Int) = ((7 : Nat) : Int) from rfl, show (1 : Int) = ((1 : Nat) : Int) from rfl, putL_app (n := 7) (.inr (.inr rfl)) hx.1.1 hx.1.2, putL_app (n := 1) (.inl rfl) hx.2.1.1 hx.2.1.2, octL_app hx.2.2]
      simp
    unfold entsL at ih ⊢
    rw [List.foldl_cons, e, ih]
    simp
theorem packP_app {P : Po} {l : List Ed} {d : List Int} (h : May P l) (hen : l.length = P.en) (hd : d.length = P.sn) : packP P l d = packB P l d := by
  have p1 : Wr.p256 1 = 256 := by decide
  have p7 : Wr.p256 7 = 72057594037927936 := by decide
  have hkd := h.kd; have hfr := h.fr; have htq := h.tq; have hte := h.te; have hix := h.ix; have hco := h.co; have hhi := h.hi; have hlt := h.lt; have hm := h.most
  have hH : headL P = Wr.be 1 P.kd ++ (Wr.be 1 P.fr ++ (Wr.be 1 P.to ++ Wr.be 7 P.te)) := by
    unfold headL
    rw [show (7 : Int) = ((7 : Nat) : Int) from rfl, show (1 : Int) = ((1 : Nat) : Int) from rfl, putL_app (n := 1) (.inl rfl) (by omega) (by rw [p1]; omega), putL_app (n := 1) (.inl rfl) (by omega) (by rw [p1]; omega), putL_app (n := 1) (.inl rfl) (by omega) (by rw [p1]; omega), putL_app (n := 7) (.inr (.inr rfl)) (by omega) (by rw [p7]; omega)]
    simp
  have hB : packB P l d = headL P ++ bodyB P l d := by unfold packB; rw [hH]; simp
  rw [hB]
  unfold packP bodyL bodyB
  by_cases k1 : P.kd = 1
  · rw [if_pos k1, if_pos k1]; unfold wbody1; rw [putsL_app _ _ (by simp; omega)]; rfl
  · rw [if_neg k1, if_neg k1]
    by_cases k2 : P.kd = 2
    · rw [if_pos k2, if_pos k2]; exact putL_ok1 _ _
    · rw [if_neg k2, if_neg k2]
      by_cases k3 : P.kd = 3
      · rw [if_pos k3, if_pos k3]
        have hf := ents_facts P.te hte.2 l (P.ix + 1) P.lt hlt.1 h.ents
        unfold wbody3
        rw [putsL_app _ _ (by simp; omega), show (1 : Int) = ((1 : Nat) : Int) from rfl, putL_app (n := 1) (.inl rfl) (by omega) (by rw [p1]; omega), entsL_app _ _ (fun x hx => by
          obtain ⟨k, hk, rfl⟩ := List.getElem_of_mem hx
          have := hf k hk
          rw [p7, p1]
          omega), hen]
        simp
      · rw [if_neg k3, if_neg k3]
        by_cases k4 : P.kd = 4
        · rw [if_pos k4, if_pos k4]; unfold wbody4; rw [putL_ok1, putsL_app _ _ (by simp; omega)]; simp
        · rw [if_neg k4, if_neg k4]
          by_cases k5 : P.kd = 5
          · rw [if_pos k5, if_pos k5]
            have hs := h.snap0
            unfold wbody5
            rw [putsL_app _ _ (by simp; omega), show (1 : Int) = ((1 : Nat) : Int) from rfl, putL_app (n := 1) (.inl rfl) (by omega) (by rw [p1]; omega), octL_app (by omega)]
            simp
          · rw [if_neg k5, if_neg k5]; unfold wbody6; rw [putsL_app _ _ (by simp; omega)]; rfl
end Go.Proofs.Ytnphnaggamfoiaa
