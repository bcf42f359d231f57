/- The netmap's small questions: number, node, spans. -/
import Derived.Test.YtgmndppjdnpejaaB1
namespace Go.Proofs.Ytgmndppjdnpejaa
open Go.RowKit
set_option maxRecDepth 20000
set_option linter.unusedVariables false
set_option linter.unusedSimpArgs false

def nuB (n : Int) : Bool := decide (0 ≤ n) && decide (n ≤ 9007199254740991)
def ndB (n : Int) : Bool := decide (1 ≤ n) && decide (n ≤ 8)
theorem number_any (n : Int) (w : World) : Calls Try.prog 43 #[.int .i64 n] w fun e w' => e = .returned (.bool (nuB n)) ∧ w = w' := by
  unfold nuB
  by_cases h : 0 ≤ n
  · have h' : decide (0 ≤ n) = true := by simpa using h
    rw [h']
    go_enter Try.func43, Try.ntmps43
    go_wp2
    go_ret
    exact ⟨by simp, rfl⟩
  · have h' : decide (0 ≤ n) = false := by simpa using h
    rw [h']
    go_enter Try.func43, Try.ntmps43
    go_wp2
    go_ret
    exact ⟨by simp, rfl⟩
theorem number_is {n : Int} {r : Bool} (h : nuB n = r) (w : World) : Calls Try.prog 43 #[.int .i64 n] w fun e w' => e = .returned (.bool r) ∧ w = w' := h ▸ number_any n w
theorem node_any (n : Int) (w : World) : Calls Try.prog 56 #[.int .i64 n] w fun e w' => e = .returned (.bool (ndB n)) ∧ w = w' := by
  unfold ndB
  by_cases h : 1 ≤ n
  · have h' : decide (1 ≤ n) = true := by simpa using h
    rw [h']
    go_enter Try.func56, Try.ntmps56
    go_wp2
    go_ret
    exact ⟨by simp, rfl⟩
  · have h' : decide (1 ≤ n) = false := by simpa using h
    rw [h']
    go_enter Try.func56, Try.ntmps56
    go_wp2
    go_ret
    exact ⟨by simp, rfl⟩
theorem node_is {n : Int} {r : Bool} (h : ndB n = r) (w : World) : Calls Try.prog 56 #[.int .i64 n] w fun e w' => e = .returned (.bool r) ∧ w = w' := h ▸ node_any n w

/-- Spans in order, the one ahead ending at t. -/
def spG : Int → List Sp → Bool
  | _, [] => true
  | t, s :: l => (decide (t + 1 < s.lo) && (decide (0 ≤ s.lo) && (decide (s.lo ≤ s.hi) && decide (s.hi ≤ 65535)))) && spG s.hi l
def spB (l : List Sp) : Bool := spG (-2) l && decide ((l.length : Int) ≤ 33)
theorem spG_next {t : Int} {l : List Sp} {k : Nat} (hk : k < l.length) : spG t (l.drop k) = ((decide (t + 1 < (l[k]).lo) && (decide (0 ≤ (l[k]).lo) && (decide ((l[k]).lo ≤ (l[k]).hi) && decide ((l[k]).hi ≤ 65535)))) && spG (l[k]).hi (l.drop (k + 1))) := by
  rw [List.drop_eq_getElem_cons hk]; rfl
theorem rowS_at : ∀ (l : List Sp) (k : Nat) (hk : k < l.length), (rowS l)[k * 2]? = some (.int .i64 (l[k]).lo) ∧ (rowS l)[k * 2 + 1]? = some (.int .i64 (l[k]).hi)
  | [], k, hk => absurd hk (by simp)
  | s :: l, 0, _ => ⟨rfl, rfl⟩
  | s :: l, k + 1, hk => by
    have ih := rowS_at l k (by simpa using hk)
    have e : rowS (s :: l) = .int .i64 s.lo :: .int .i64 s.hi :: rowS l := rfl
    rw [e, show (k + 1) * 2 = k * 2 + 1 + 1 by omega, List.getElem?_cons_succ, List.getElem?_cons_succ, List.getElem?_cons_succ, List.getElem?_cons_succ, List.getElem_cons_succ]
    exact ih
theorem span_at {w : World} {S : Nat → Prop} {A : Option Addr} {c : Nat} {l : List Sp} (h : Rd w S 2 (.slice A l.length c) l.length (rowS l)) {k : Nat} (hk : k < l.length) :
    ∃ g o, A = some ⟨g, o, none⟩ ∧ S g ∧ w.cell? ⟨g, o + k * 2, none⟩ = some (.int .i64 (l[k]).lo) ∧ w.cell? ⟨g, o + k * 2 + 1, none⟩ = some (.int .i64 (l[k]).hi) := by
  obtain ⟨g, o, hA, hg, hc⟩ := h.some_ (by omega)
  obtain ⟨h1, h2⟩ := rowS_at l k hk
  exact ⟨g, o, hA, hg, hc _ _ h1, by rw [Nat.add_assoc]; exact hc _ _ h2⟩

set_option maxHeartbeats 2000000 in
theorem spans_any (S : Nat → Prop) (A : Option Addr) (c : Nat) (l : List Sp) (w : World) (hr : Rd w S 2 (.slice A l.length c) l.length (rowS l)) (hS : ∀ i, S i → i < w.heap.size) :
    Calls Try.prog 58 #[.slice A l.length c] w fun e w' => e = .returned (.bool (spB l)) ∧ Below w.heap.size w w' := by
  have hcap := hr.cap.2
  have hc1 := hcap.1
  have hc2 := hcap.2
  unfold maxLen at hc2
  have HR := Lib.hid hr
  have HS := Lib.hid hS
  clear hr hS hcap
  go_enter Try.func58, Try.ntmps58
  go_wp2_with fail
  go_loopw [3, 8] (fun tm i wr => ∃ (k : Nat) (t : Int), k ≤ l.length ∧ i = .int .i64 k ∧ tm = .int .i64 t ∧ -2 ≤ t ∧ t ≤ 65535 ∧ spG (-2) l = spG t (l.drop k) ∧ Below w.heap.size w wr) (fun _ i _ => l.length - (intOf i).toNat)
  case atStart => exact ⟨0, -2, Nat.zero_le _, rfl, rfl, by omega, by omega, by simp, B0 _⟩
  case round =>
    obtain ⟨k, t, hk, rfl, rfl, ht1, ht2, he, hb⟩ := hrel
    obtain ⟨wv, rfl⟩ : ∃ wv, wv = wr := ⟨_, rfl⟩
    have HB := Lib.hid hb
    by_cases hlt : k < l.length
    · have hlt' : (k : Int) < (l.length : Int) := by omega
      have hk0 : (0 : Int) ≤ (k : Int) := by omega
      rw [spG_next hlt] at he
      obtain ⟨g, o, hA, hg, c0, c1⟩ := span_at (HR.out.below hb HS.out) hlt
      subst hA
      obtain ⟨lo, hlo⟩ : ∃ x, x = (l[k]).lo := ⟨_, rfl⟩
      obtain ⟨hi, hhi⟩ : ∃ x, x = (l[k]).hi := ⟨_, rfl⟩
      rw [← hlo] at he c0
      rw [← hhi] at he c1
      have HE := Lib.hid he
      have HF : Hid ((decide (t + 1 < lo) && (decide (0 ≤ lo) && (decide (lo ≤ hi) && decide (hi ≤ 65535)))) = false → spB l = false) := Lib.hid (fun h => by unfold spB; rw [HE.out, h]; rfl)
      clear he hb hlo hhi hg
      by_cases q1 : lo ≤ t + 1
      · go_wp2_with fail
        go_ret
        exact ⟨ret_bool (HF.out (by rw [decide_eq_false (by omega)]; rfl)).symm, Ba HB.out _⟩
      · have q2 : ¬ lo < 0 := by omega
        by_cases q3 : hi < lo
        · go_wp2_with fail
          go_ret
          exact ⟨ret_bool (HF.out (by rw [decide_eq_false (p := lo ≤ hi) (by omega)]; simp)).symm, Ba HB.out _⟩
        · by_cases q4 : 65535 < hi
          · go_wp2_with fail
            go_ret
            exact ⟨ret_bool (HF.out (by rw [decide_eq_false (p := hi ≤ 65535) (by omega)]; simp)).symm, Ba HB.out _⟩
          · go_wp2_with fail
            go_roundw
            case rel => exact ⟨k + 1, hi, by omega, by go_num, rfl, by omega, by omega, by rw [HE.out, decide_eq_true (p := t + 1 < lo) (by omega), decide_eq_true (p := 0 ≤ lo) (by omega), decide_eq_true (p := lo ≤ hi) (by omega), decide_eq_true (p := hi ≤ 65535) (by omega)]; rfl, Ba HB.out _⟩
            case measure => simp [intOf]; omega
    · obtain rfl : k = l.length := by omega
      have HT : Hid (spB l = decide ((l.length : Int) ≤ 33)) := Lib.hid (by unfold spB; rw [he, List.drop_of_length_le (Nat.le_refl _)]; rfl)
      clear he hb
      go_wp2_with fail
      go_ret
      exact ⟨ret_bool HT.out.symm, HB.out⟩
end Go.Proofs.Ytgmndppjdnpejaa
