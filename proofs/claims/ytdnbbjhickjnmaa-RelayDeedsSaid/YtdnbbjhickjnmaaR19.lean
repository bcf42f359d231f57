/- What the relay's frames for each node are, held against the reference's list. No program in sight. -/
import Derived.Test.YtdnbbjhickjnmaaR18
namespace Go.Proofs.Ytdnbbjhickjnmaa
open Go.RowKit
set_option linter.unusedVariables false
set_option linter.unusedSimpArgs false

def forN (n : Int) (d : Dg) : Bool := d.t == n
/-- Each node's frames are the reference's for it, in order; all are for nodes. -/
def Tied (q : Nat → List Dg) (ds : List Dg) : Prop := (∀ n, n < 9 → q n = ds.filter (forN n)) ∧ ∀ d ∈ ds, nodeB d.t = true
theorem cnt_forN (ds : List Dg) (n : Int) : cntF ds n = (ds.filter (forN n)).length := rfl
theorem tied_len {q : Nat → List Dg} {ds : List Dg} (h : Tied q ds) (n : Int) : lenF q n = (cntF ds n : Int) := by
  unfold lenF
  cases hn : nodeB n
  · simp only [Bool.false_eq_true, if_false]
    have : ds.filter (forN n) = [] := by
      rw [List.filter_eq_nil_iff]
      intro d hd hb
      have h2 := h.2 d hd
      simp only [forN, beq_iff_eq] at hb
      rw [hb, hn] at h2
      cases h2
    rw [cnt_forN, this]
    rfl
  · obtain ⟨k, rfl, k0, k1⟩ := node_nat hn
    simp only [if_true, Int.toNat_natCast]
    rw [h.1 k k1, cnt_forN]
theorem tied_putE {q : Nat → List Dg} {ds : List Dg} (h : Tied q ds) (f t : Int) (n : Nat) : rputE q f t n = refputE ds f t n := by
  unfold rputE refputE
  by_cases hc : chkE f t n = 0
  · rw [if_pos hc, if_pos hc]
    obtain ⟨k, rfl, k0, k1⟩ := node_nat (chk_ok hc).2.1
    rw [Int.toNat_natCast, h.1 k k1, cnt_forN]
  · rw [if_neg hc, if_neg hc]
theorem tied_put {q : Nat → List Dg} {ds : List Dg} (h : Tied q ds) (f t : Int) (bs : List Int) : Tied (rputQ q f t bs) (refputL ds f t bs) := by
  unfold rputQ refputL
  rw [tied_putE h]
  by_cases hc : refputE ds f t bs.length = 0
  · rw [if_pos hc, if_pos hc]
    have hck : chkE f t bs.length = 0 := by
      unfold refputE at hc
      by_cases h0 : chkE f t bs.length = 0
      · exact h0
      · rw [if_neg h0] at hc; exact hc
    have hnt := (chk_ok hck).2.1
    obtain ⟨k, rfl, k0, k1⟩ := node_nat hnt
    rw [Int.toNat_natCast]
    constructor
    · intro n hn
      rw [List.filter_append]
      by_cases e : n = k
      · subst e
        rw [upd_same, h.1 n hn]
        simp [forN]
      · rw [upd_ne _ _ e, h.1 n hn]
        have : (((k : Int)) == ((n : Int))) = false := by rw [beq_eq_false_iff_ne]; omega
        simp [forN, this]
    · intro d hd
      rcases List.mem_append.1 hd with hd | hd
      · exact h.2 d hd
      · simp only [List.mem_singleton] at hd
        subst hd
        exact hnt
  · rw [if_neg hc, if_neg hc]
    exact h
def reftakE (ds : List Dg) (n : Int) : Int := if nodeB n then (if cntF ds n = 0 then 240 else 0) else 220
def reftakD (ds : List Dg) (n : Int) : Dg := if reftakE ds n = 0 then (ds.filter (forN n)).headD ⟨0, 0, []⟩ else ⟨0, 0, []⟩
def reftakL (ds : List Dg) (n : Int) : List Dg := if reftakE ds n = 0 then ds.eraseP (forN n) else ds
theorem filter_eraseP_self (p : Dg → Bool) : ∀ ds : List Dg, (ds.eraseP p).filter p = (ds.filter p).tail
  | [] => rfl
  | d :: ds => by
    by_cases h : p d = true
    · simp [List.eraseP_cons_of_pos h, List.filter_cons_of_pos h]
    · rw [List.eraseP_cons_of_neg h, List.filter_cons_of_neg h, List.filter_cons_of_neg h, filter_eraseP_self p ds]
theorem filter_eraseP_ne (p q : Dg → Bool) (hpq : ∀ d, p d = true → q d = false) : ∀ ds : List Dg, (ds.eraseP p).filter q = ds.filter q
  | [] => rfl
  | d :: ds => by
    by_cases h : p d = true
    · rw [List.eraseP_cons_of_pos h, List.filter_cons_of_neg (by rw [hpq d h]; decide)]
    · rw [List.eraseP_cons_of_neg h]
      by_cases hq : q d = true
      · rw [List.filter_cons_of_pos hq, List.filter_cons_of_pos hq, filter_eraseP_ne p q hpq ds]
      · rw [List.filter_cons_of_neg hq, List.filter_cons_of_neg hq, filter_eraseP_ne p q hpq ds]
theorem tied_takE {q : Nat → List Dg} {ds : List Dg} (h : Tied q ds) (n : Int) : takE q n = reftakE ds n := by
  unfold takE reftakE
  cases hn : nodeB n
  · rfl
  · obtain ⟨k, rfl, k0, k1⟩ := node_nat hn
    rw [Int.toNat_natCast, h.1 k k1, cnt_forN]
theorem tied_takD {q : Nat → List Dg} {ds : List Dg} (h : Tied q ds) (n : Int) : takD q n = reftakD ds n := by
  unfold takD reftakD
  rw [tied_takE h]
  split
  · rename_i he
    have hn : nodeB n = true := by
      unfold reftakE at he
      cases hn : nodeB n
      · rw [hn] at he; simp at he
      · rfl
    obtain ⟨k, rfl, k0, k1⟩ := node_nat hn
    rw [Int.toNat_natCast, h.1 k k1]
  · rfl
theorem tied_take {q : Nat → List Dg} {ds : List Dg} (h : Tied q ds) (n : Int) : Tied (takQ q n) (reftakL ds n) := by
  unfold takQ reftakL
  rw [tied_takE h]
  split
  · rename_i he
    have hn : nodeB n = true := by
      unfold reftakE at he
      cases hn : nodeB n
      · rw [hn] at he; simp at he
      · rfl
    obtain ⟨k, rfl, k0, k1⟩ := node_nat hn
    rw [Int.toNat_natCast]
    constructor
    · intro m hm
      by_cases e : m = k
      · subst e
        rw [upd_same, h.1 m hm, filter_eraseP_self]
      · rw [upd_ne _ _ e, h.1 m hm, filter_eraseP_ne]
        intro d hd
        simp only [forN, beq_iff_eq] at hd ⊢
        rw [hd, beq_eq_false_iff_ne]
        omega
    · exact fun d hd => h.2 d (List.mem_of_mem_eraseP hd)
  · exact h
end Go.Proofs.Ytdnbbjhickjnmaa
