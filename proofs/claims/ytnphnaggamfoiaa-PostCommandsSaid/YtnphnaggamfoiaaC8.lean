/- Walks of the document's answer: snapshots and messages, compared. -/
import Derived.Test.YtnphnaggamfoiaaC7
namespace Go.Proofs.Ytnphnaggamfoiaa
open Go.RowKit
set_option maxRecDepth 20000
set_option linter.unusedVariables false
set_option linter.unusedSimpArgs false

/-- What a message's slices read as: its entries l, its snapshot's data d; all in blocks of S. -/
structure PoAt (w : World) (S : Nat → Prop) (p : Po) (l : List En) (d : List Int) : Prop where
  lt : ∀ i, S i → i < w.heap.size
  len : l.length = p.en
  most : p.en ≤ 140737488351232
  rd : Rd w S 4 (.slice p.EA p.en p.ec) p.en (rowE l)
  each : ∀ x ∈ l, x.ok w S
  dlen : d.length = p.sn
  dmost : p.sn ≤ 140737488351232
  data : Rd w S 1 (.slice p.SA p.sn p.sk) p.sn (bts d)
theorem PoAt.below {w w' : World} {S : Nat → Prop} {p : Po} {l : List En} {d : List Int} (h : PoAt w S p l d) (hb : Below w.heap.size w w') : PoAt w' S p l d :=
  ⟨fun i hi => Nat.lt_of_lt_of_le (h.lt i hi) hb.size, h.len, h.most, h.rd.below hb h.lt, fun x hx => ⟨(h.each x hx).1.below hb h.lt, (h.each x hx).2⟩, h.dlen, h.dmost, h.data.below hb h.lt⟩
def bareL {α : Type} (p : Po) (l : List α) : List α := if p.kd = 3 then l else []
def bareD (p : Po) (d : List Int) : List Int := if p.kd = 5 then d else []
theorem PoAt.bare {w : World} {S : Nat → Prop} {p : Po} {l : List En} {d : List Int} (h : PoAt w S p l d) : PoAt w S p.bare (bareL p l) (bareD p d) := by
  unfold Po.bare bareL bareD
  have n4 : Rd w S 4 (.slice none 0 0) 0 (rowE []) := Rd.nil _ _ _
  have n1 : Rd w S 1 (.slice none 0 0) 0 (bts []) := Rd.nil _ _ _
  by_cases h1 : p.kd = 1
  · simp only [h1, if_true, show ¬ ((1 : Int) = 3) from by omega, show ¬ ((1 : Int) = 5) from by omega, if_false]
    exact ⟨h.lt, rfl, by simp, n4, by simp, rfl, by simp, n1⟩
  · by_cases h2 : p.kd = 2
    · simp only [h2, if_true, show ¬ ((2 : Int) = 1) from by omega, show ¬ ((2 : Int) = 3) from by omega, show ¬ ((2 : Int) = 5) from by omega, if_false]
      exact ⟨h.lt, rfl, by simp, n4, by simp, rfl, by simp, n1⟩
    · by_cases h3 : p.kd = 3
      · simp only [h3, if_true, show ¬ ((3 : Int) = 1) from by omega, show ¬ ((3 : Int) = 2) from by omega, show ¬ ((3 : Int) = 5) from by omega, if_false]
        exact ⟨h.lt, h.len, h.most, h.rd, h.each, rfl, by simp, n1⟩
      · by_cases h4 : p.kd = 4
        · simp only [h4, if_true, show ¬ ((4 : Int) = 1) from by omega, show ¬ ((4 : Int) = 2) from by omega, show ¬ ((4 : Int) = 3) from by omega, show ¬ ((4 : Int) = 5) from by omega, if_false]
          exact ⟨h.lt, rfl, by simp, n4, by simp, rfl, by simp, n1⟩
        · by_cases h5 : p.kd = 5
          · simp only [h5, if_true, show ¬ ((5 : Int) = 1) from by omega, show ¬ ((5 : Int) = 2) from by omega, show ¬ ((5 : Int) = 3) from by omega, show ¬ ((5 : Int) = 4) from by omega, if_false]
            exact ⟨h.lt, rfl, by simp, n4, by simp, h.dlen, h.dmost, h.data⟩
          · simp only [h1, h2, h3, h4, h5, if_false]
            exact ⟨h.lt, rfl, by simp, n4, by simp, rfl, by simp, n1⟩

def snB (a b c : Int) (d : List Int) (a' b' c' : Int) (d' : List Int) : Bool := (a == a') && (b == b') && (c == c') && eqB d d'
set_option maxHeartbeats 2000000 in
theorem samesnap_any (S T : Nat → Prop) (a b c a' b' c' : Int) (A A' : Option Addr) (n n' k k' : Nat) (d d' : List Int) (w : World) (h1 : Rd w S 1 (.slice A n k) n (bts d)) (hS : ∀ i, S i → i < w.heap.size) (e1 : d.length = n)
    (h2 : Rd w T 1 (.slice A' n' k') n' (bts d')) (hT : ∀ i, T i → i < w.heap.size) (e2 : d'.length = n') :
    Calls Try.prog 64 #[.agg #[.int .i64 a, .int .i64 b, .int .i64 c, .slice A n k], .agg #[.int .i64 a', .int .i64 b', .int .i64 c', .slice A' n' k']] w fun e w' => e = .returned (.bool (snB a b c d a' b' c' d')) ∧ Below w.heap.size w w' := by
  subst e1 e2
  unfold snB
  have H1 := Lib.hid h1
  have H2 := Lib.hid h2
  have HS := Lib.hid hS
  have HT := Lib.hid hT
  clear h1 h2 hS hT
  cases x0 : (a == a')
  · simp only [Bool.false_and, Bool.and_false]
    go_enter Try.func64, Try.ntmps64
    go_wp2_with fail
    go_ret
    exact ⟨rfl, Ba (Ba (B0 w) _) _⟩
  · cases x1 : (b == b')
    · simp only [Bool.false_and, Bool.and_false]
      go_enter Try.func64, Try.ntmps64
      go_wp2_with fail
      go_ret
      exact ⟨rfl, Ba (Ba (B0 w) _) _⟩
    · cases x2 : (c == c')
      · simp only [Bool.false_and, Bool.and_false]
        go_enter Try.func64, Try.ntmps64
        go_wp2_with fail
        go_ret
        exact ⟨rfl, Ba (Ba (B0 w) _) _⟩
      · simp only [Bool.true_and]
        go_enter Try.func64, Try.ntmps64
        go_wp2_with (go_at_call 24; refine (eq_bytes S T _ _ d d' _ (H1.out.below (Ba (Ba (B0 w) _) _) HS.out) (H2.out.below (Ba (Ba (B0 w) _) _) HT.out)).mono ?_; rintro e w1 ⟨rfl, nd, rfl⟩)
        go_ret
        exact ⟨rfl, BdN (Ba (Ba (B0 w) _) _) _⟩

def smB (p q : Po) (l m : List Ed) (d d' : List Int) : Bool :=
  (p.kd == q.kd) && (p.fr == q.fr) && (p.to == q.to) && (p.te == q.te) && (p.ix == q.ix) && (p.lt == q.lt) && (p.co == q.co) && (p.ok == q.ok) && (p.hi == q.hi) && eqEs l m && snB p.si p.st p.sc d q.si q.st q.sc d'
set_option maxHeartbeats 8000000 in
theorem same_any (S T : Nat → Prop) (p q : Po) (l m : List En) (d d' : List Int) (w : World) (hp : PoAt w S p l d) (hq : PoAt w T q m d') :
    Calls Try.prog 29 #[p.v, q.v] w fun e w' => e = .returned (.bool (smB p q (l.map En.ed) (m.map En.ed) d d')) ∧ Below w.heap.size w w' := by
  obtain ⟨kd, fr, to, te, ix, lt, co, ok, hi, EA, en, ec, si, st, sc, SA, sn, sk⟩ := p
  obtain ⟨kd', fr', to', te', ix', lt', co', ok', hi', EA', en', ec', si', st', sc', SA', sn', sk'⟩ := q
  have HP := Lib.hid hp
  have HQ := Lib.hid hq
  clear hp hq
  unfold smB
  simp only
  obtain ⟨re, hre⟩ : ∃ r, eqEs (l.map En.ed) (m.map En.ed) = r := ⟨_, rfl⟩
  obtain ⟨rs, hrs⟩ : ∃ r, snB si st sc d si' st' sc' d' = r := ⟨_, rfl⟩
  rw [hre, hrs]
  have HRE := Lib.hid hre
  have HRS := Lib.hid hrs
  clear hre hrs
  simp only [Po.v, Po.cs]
  cases x0 : (kd == kd')
  · simp only [Bool.false_and, Bool.and_false]
    go_enter Try.func29, Try.ntmps29
    go_wp2_with fail
    go_ret
    exact ⟨rfl, Ba (Ba (B0 w) _) _⟩
  · cases x1 : (fr == fr')
    · simp only [Bool.false_and, Bool.and_false]
      go_enter Try.func29, Try.ntmps29
      go_wp2_with fail
      go_ret
      exact ⟨rfl, Ba (Ba (B0 w) _) _⟩
    · cases x2 : (to == to')
      · simp only [Bool.false_and, Bool.and_false]
        go_enter Try.func29, Try.ntmps29
        go_wp2_with fail
        go_ret
        exact ⟨rfl, Ba (Ba (B0 w) _) _⟩
      · cases x3 : (te == te')
        · simp only [Bool.false_and, Bool.and_false]
          go_enter Try.func29, Try.ntmps29
          go_wp2_with fail
          go_ret
          exact ⟨rfl, Ba (Ba (B0 w) _) _⟩
        · cases x4 : (ix == ix')
          · simp only [Bool.false_and, Bool.and_false]
            go_enter Try.func29, Try.ntmps29
            go_wp2_with fail
            go_ret
            exact ⟨rfl, Ba (Ba (B0 w) _) _⟩
          · cases x5 : (lt == lt')
            · simp only [Bool.false_and, Bool.and_false]
              go_enter Try.func29, Try.ntmps29
              go_wp2_with fail
              go_ret
              exact ⟨rfl, Ba (Ba (B0 w) _) _⟩
            · cases x6 : (co == co')
              · simp only [Bool.false_and, Bool.and_false]
                go_enter Try.func29, Try.ntmps29
                go_wp2_with fail
                go_ret
                exact ⟨rfl, Ba (Ba (B0 w) _) _⟩
              · cases x7 : (ok == ok')
                · simp only [Bool.false_and, Bool.and_false]
                  go_enter Try.func29, Try.ntmps29
                  go_wp2_with fail
                  go_ret
                  exact ⟨rfl, Ba (Ba (B0 w) _) _⟩
                · cases x8 : (hi == hi')
                  · simp only [Bool.false_and, Bool.and_false]
                    go_enter Try.func29, Try.ntmps29
                    go_wp2_with fail
                    go_ret
                    exact ⟨rfl, Ba (Ba (B0 w) _) _⟩
                  · cases re
                    · simp only [Bool.false_and, Bool.and_false]
                      go_enter Try.func29, Try.ntmps29
                      go_wp2_with (go_at_call 63; refine (sameents_any S T EA EA' en en' ec ec' l m _ (HP.out.below (Ba (Ba (B0 w) _) _)).rd (HP.out.below (Ba (Ba (B0 w) _) _)).lt (HP.out.below (Ba (Ba (B0 w) _) _)).each HP.out.len (HQ.out.below (Ba (Ba (B0 w) _) _)).rd (HQ.out.below (Ba (Ba (B0 w) _) _)).lt (HQ.out.below (Ba (Ba (B0 w) _) _)).each HQ.out.len).mono ?_; rintro e w1 ⟨rfl, nd, rfl⟩; rw [HRE.out])
                      go_ret
                      exact ⟨rfl, BdN (Ba (Ba (B0 w) _) _) _⟩
                    · simp only [Bool.true_and]
                      go_enter Try.func29, Try.ntmps29
                      go_wp2_with (first | (go_at_call 63; refine (sameents_any S T EA EA' en en' ec ec' l m _ (HP.out.below (Ba (Ba (B0 w) _) _)).rd (HP.out.below (Ba (Ba (B0 w) _) _)).lt (HP.out.below (Ba (Ba (B0 w) _) _)).each HP.out.len (HQ.out.below (Ba (Ba (B0 w) _) _)).rd (HQ.out.below (Ba (Ba (B0 w) _) _)).lt (HQ.out.below (Ba (Ba (B0 w) _) _)).each HQ.out.len).mono ?_; rintro e w1 ⟨rfl, nd, rfl⟩; rw [HRE.out]) | (go_at_call 64; refine (samesnap_any S T si st sc si' st' sc' SA SA' sn sn' sk sk' d d' _ (HP.out.below (BdN (Ba (Ba (B0 w) _) _) nd)).data (HP.out.below (BdN (Ba (Ba (B0 w) _) _) nd)).lt HP.out.dlen (HQ.out.below (BdN (Ba (Ba (B0 w) _) _) nd)).data (HQ.out.below (BdN (Ba (Ba (B0 w) _) _) nd)).lt HQ.out.dlen).mono ?_; rintro e w2 ⟨rfl, hb2⟩; rw [HRS.out]))
                      go_ret
                      exact ⟨rfl, Bt (BdN (Ba (Ba (B0 w) _) _) _) hb2⟩
end Go.Proofs.Ytnphnaggamfoiaa
