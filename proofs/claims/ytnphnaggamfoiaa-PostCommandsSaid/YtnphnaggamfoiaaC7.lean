/- Lists of entries, compared. -/
import Derived.Test.YtnphnaggamfoiaaC6
namespace Go.Proofs.Ytnphnaggamfoiaa
open Go.RowKit
set_option maxRecDepth 20000
set_option linter.unusedVariables false
set_option linter.unusedSimpArgs false

def edB (a b : Ed) : Bool := (a.te == b.te) && (a.ix == b.ix) && (a.ki == b.ki) && eqB a.bs b.bs
def eqEs : List Ed → List Ed → Bool
  | [], [] => true
  | a :: l, b :: m => edB a b && eqEs l m
  | _, _ => false
theorem eqEs_len : ∀ {l m : List Ed}, l.length ≠ m.length → eqEs l m = false
  | [], [], h => absurd rfl h
  | [], _ :: _, _ => rfl
  | _ :: _, [], _ => rfl
  | a :: l, b :: m, h => by
    have := @eqEs_len l m (by simpa using h)
    simp [eqEs, this]
theorem edB_eq (a b : Ed) : edB a b = true ↔ a = b := by
  obtain ⟨a1, a2, a3, a4⟩ := a
  obtain ⟨b1, b2, b3, b4⟩ := b
  simp [edB, eqB, and_assoc]
theorem eqEs_eq : ∀ (l m : List Ed), eqEs l m = true ↔ l = m
  | [], [] => by simp [eqEs]
  | [], _ :: _ => by simp [eqEs]
  | _ :: _, [] => by simp [eqEs]
  | a :: l, b :: m => by
    have := eqEs_eq l m
    have h2 := edB_eq a b
    simp only [eqEs, Bool.and_eq_true, List.cons.injEq]
    rw [this, h2]
theorem eqEs_refl (l : List Ed) : eqEs l l = true := (eqEs_eq l l).2 rfl
theorem eqEs_drop {l m : List Ed} {k : Nat} (h1 : k < l.length) (h2 : k < m.length) : eqEs (l.drop k) (m.drop k) = (edB l[k] m[k] && eqEs (l.drop (k + 1)) (m.drop (k + 1))) := by
  rw [List.drop_eq_getElem_cons h1, List.drop_eq_getElem_cons h2]
  rfl
theorem drew_more {w wv : World} (h : ∃ n, wv = w.drewN n) (m : Nat) : ∃ n, wv.drewN m = w.drewN n := by
  obtain ⟨n, rfl⟩ := h
  exact ⟨n + m, World.drewN_drewN ..⟩
theorem eq_quiet {S T : Nat → Prop} {v1 v2 : Value} {xs ys : List Int} {w : World} {r : Bool} (h1 : Rd w S 1 v1 xs.length (bts xs)) (hS : ∀ i, S i → i < w.heap.size) (h2 : Rd w T 1 v2 ys.length (bts ys)) (hT : ∀ i, T i → i < w.heap.size) (hr : eqB xs ys = r) (n : Nat) :
    Calls Try.prog 24 #[v1, v2] (w.drewN n) fun e w'' => e = .returned (.bool r) ∧ ∃ m, w'' = w.drewN m :=
  (eq_bytes S T v1 v2 xs ys _ (h1.below (BdN (B0 w) n) hS) (h2.below (BdN (B0 w) n) hT)).mono fun e w' ⟨he, k, hk⟩ => ⟨by rw [he, hr], n + k, by rw [hk, World.drewN_drewN]⟩
theorem rd_ents {S : Nat → Prop} {w : World} {A : Option Addr} {n c : Nat} {l : List En} (h : Rd w S 4 (.slice A n c) n (rowE l)) (hl : l.length = n) {k : Nat} (hk : k < n) :
    ∃ g o, A = some ⟨g, o, none⟩ ∧ S g ∧ ∀ j u, j < 4 → (l[k]'(by omega)).cells[j]? = some u → w.cell? ⟨g, o + k * 4 + j, none⟩ = some u := by
  obtain ⟨g, o, hA, hg, hc⟩ := h.some_ (by omega)
  exact ⟨g, o, hA, hg, fun j u hj hu => by rw [Nat.add_assoc]; exact hc _ _ ((rowE_at l k (by omega) j hj).trans hu)⟩

set_option maxHeartbeats 4000000 in
theorem sameents_any (S T : Nat → Prop) (A1 A2 : Option Addr) (n1 n2 c1 c2 : Nat) (l1 l2 : List En) (w : World) (h1 : Rd w S 4 (.slice A1 n1 c1) n1 (rowE l1)) (hS : ∀ i, S i → i < w.heap.size) (o1 : ∀ x ∈ l1, x.ok w S) (e1 : l1.length = n1)
    (h2 : Rd w T 4 (.slice A2 n2 c2) n2 (rowE l2)) (hT : ∀ i, T i → i < w.heap.size) (o2 : ∀ x ∈ l2, x.ok w T) (e2 : l2.length = n2) :
    Calls Try.prog 63 #[.slice A1 n1 c1, .slice A2 n2 c2] w fun e w' => e = .returned (.bool (eqEs (l1.map En.ed) (l2.map En.ed))) ∧ ∃ n, w' = w.drewN n := by
  have hcap1 := h1.cap.2
  have hcap2 := h2.cap.2
  unfold maxLen at hcap1 hcap2
  obtain ⟨a1, a2⟩ := hcap1
  obtain ⟨a3, a4⟩ := hcap2
  by_cases hn : n1 = n2
  · have hn' : ((n1 : Int) != (n2 : Int)) = false := by simp [hn]
    have H1 := Lib.hid h1
    have H2 := Lib.hid h2
    have HS := Lib.hid hS
    have HT := Lib.hid hT
    have O1 := Lib.hid o1
    have O2 := Lib.hid o2
    have E1 := Lib.hid e1
    have E2 := Lib.hid e2
    have HN := Lib.hid hn
    clear h1 h2 hS hT o1 o2 e1 e2 hn
    go_enter Try.func63, Try.ntmps63
    go_wp2_with fail
    go_loopw [5] (fun i wr => ∃ k : Nat, k ≤ n1 ∧ i = .int .i64 k ∧ (∃ n, wr = w.drewN n) ∧ eqEs (l1.map En.ed) (l2.map En.ed) = eqEs ((l1.map En.ed).drop k) ((l2.map En.ed).drop k)) (fun i _ => n1 - (intOf i).toNat)
    case atStart => exact ⟨0, Nat.zero_le _, rfl, ⟨0, rfl⟩, rfl⟩
    case round =>
      obtain ⟨k, hk, rfl, hw, he⟩ := hrel
      obtain ⟨wv, rfl⟩ : ∃ wv, wv = wr := ⟨_, rfl⟩
      have HW := Lib.hid hw
      have HC : Hid (∀ a, wv.cell? a = w.cell? a) := Lib.hid (by obtain ⟨n, rfl⟩ := hw; intro a; rfl)
      have HBW : Hid (Below w.heap.size w wv) := Lib.hid (by obtain ⟨n, rfl⟩ := hw; exact BdN (B0 w) n)
      clear hw
      by_cases hlt : k < n1
      · have hlt2 : k < n2 := by have := HN.out; omega
        have hi1 : (k : Int) < (n1 : Int) := by omega
        have hi2 : (k : Int) < (n2 : Int) := by omega
        have hk0 : (0 : Int) ≤ (k : Int) := by omega
        have hk1 : k < l1.length := by have := E1.out; omega
        have hk2 : k < l2.length := by have := E2.out; omega
        rw [eqEs_drop (by simpa using hk1) (by simpa using hk2)] at he
        obtain ⟨g, og, hA, hg, hc⟩ := rd_ents H1.out E1.out hlt
        obtain ⟨g', og', hA', hg', hc'⟩ := rd_ents H2.out E2.out hlt2
        subst hA hA'
        have q1 := O1.out _ (List.getElem_mem hk1)
        have q2 := O2.out _ (List.getElem_mem hk2)
        rw [show (l1.map En.ed)[k]'(by simpa using hk1) = (l1[k]).ed by simp, show (l2.map En.ed)[k]'(by simpa using hk2) = (l2[k]).ed by simp] at he
        obtain ⟨x, hx⟩ : ∃ x, x = l1[k] := ⟨_, rfl⟩
        obtain ⟨y, hy⟩ : ∃ y, y = l2[k] := ⟨_, rfl⟩
        rw [← hx] at he hc q1
        rw [← hy] at he hc' q2
        obtain ⟨xte, xix, xki, xA, xc, xbs⟩ := x
        obtain ⟨yte, yix, yki, yA, yc, ybs⟩ := y
        have d0 := (HC.out _).trans (hc 0 _ (by omega) rfl)
        have d1 := (HC.out _).trans (hc 1 _ (by omega) rfl)
        have d2 := (HC.out _).trans (hc 2 _ (by omega) rfl)
        have d3 := (HC.out _).trans (hc 3 _ (by omega) rfl)
        have f0 := (HC.out _).trans (hc' 0 _ (by omega) rfl)
        have f1 := (HC.out _).trans (hc' 1 _ (by omega) rfl)
        have f2 := (HC.out _).trans (hc' 2 _ (by omega) rfl)
        have f3 := (HC.out _).trans (hc' 3 _ (by omega) rfl)
        simp only [Nat.add_zero] at d0 f0
        simp only [En.ed] at he
        have HE := Lib.hid he
        have Q1 := Lib.hid q1.1
        have Q2 := Lib.hid q2.1
        simp only at Q1 Q2
        clear he hx hy hc hc' q1 q2 hg hg'
        have HF : Hid (edB ⟨xte, xix, xki, xbs⟩ ⟨yte, yix, yki, ybs⟩ = false → eqEs (l1.map En.ed) (l2.map En.ed) = false) := Lib.hid (fun h => by rw [HE.out, h]; rfl)
        cases x0 : (xte == yte)
        · have z0 : (xte != yte) = true := by rw [bne, x0]; rfl
          have X0 := Lib.hid x0
          clear x0
          go_wp2
          go_quiet (fail)
          go_wp2
          go_ret
          exact ⟨ret_bool (HF.out (by simp [edB, X0.out])).symm, drew_more HW.out nq⟩
        · have z0 : (xte != yte) = false := by rw [bne, x0]; rfl
          cases x1 : (xix == yix)
          · have z1 : (xix != yix) = true := by rw [bne, x1]; rfl
            have X0 := Lib.hid x0
            have X1 := Lib.hid x1
            clear x0 x1
            go_wp2
            go_quiet (fail)
            go_wp2
            go_ret
            exact ⟨ret_bool (HF.out (by simp [edB, X1.out])).symm, drew_more HW.out nq⟩
          · have z1 : (xix != yix) = false := by rw [bne, x1]; rfl
            cases x2 : (xki == yki)
            · have z2 : (xki != yki) = true := by rw [bne, x2]; rfl
              have X0 := Lib.hid x0
              have X1 := Lib.hid x1
              have X2 := Lib.hid x2
              clear x0 x1 x2
              go_wp2
              go_quiet (fail)
              go_wp2
              go_ret
              exact ⟨ret_bool (HF.out (by simp [edB, X2.out])).symm, drew_more HW.out nq⟩
            · have z2 : (xki != yki) = false := by rw [bne, x2]; rfl
              cases x3 : eqB xbs ybs
              · have X0 := Lib.hid x0
                have X1 := Lib.hid x1
                have X2 := Lib.hid x2
                have X3 := Lib.hid x3
                clear x0 x1 x2 x3
                go_wp2
                go_quiet ((go_at_call 24; exact eq_quiet (Q1.out.below HBW.out HS.out) (fun i hi => Nat.lt_of_lt_of_le (HS.out i hi) HBW.out.size) (Q2.out.below HBW.out HT.out) (fun i hi => Nat.lt_of_lt_of_le (HT.out i hi) HBW.out.size) X3.out _))
                go_wp2
                go_ret
                exact ⟨ret_bool (HF.out (by simp [edB, X3.out])).symm, drew_more HW.out nq⟩
              · have X0 := Lib.hid x0
                have X1 := Lib.hid x1
                have X2 := Lib.hid x2
                have X3 := Lib.hid x3
                clear x0 x1 x2 x3
                go_wp2
                go_quiet ((go_at_call 24; exact eq_quiet (Q1.out.below HBW.out HS.out) (fun i hi => Nat.lt_of_lt_of_le (HS.out i hi) HBW.out.size) (Q2.out.below HBW.out HT.out) (fun i hi => Nat.lt_of_lt_of_le (HT.out i hi) HBW.out.size) X3.out _))
                go_wp2
                go_roundw
                case rel => exact ⟨k + 1, by omega, by go_num, drew_more HW.out nq, by rw [HE.out]; simp [edB, X0.out, X1.out, X2.out, X3.out]⟩
                case measure => simp [intOf]; omega
      · have HE := Lib.hid he
        clear he
        go_wp2
        go_ret
        refine ⟨ret_bool ?_, HW.out⟩
        rw [HE.out, List.drop_eq_nil_of_le (by have := E1.out; simp; omega), List.drop_eq_nil_of_le (by have := E2.out; have := HN.out; simp; omega)]
        rfl
  · have hn' : ((n1 : Int) != (n2 : Int)) = true := by simp; omega
    rw [eqEs_len (by simp only [List.length_map]; omega)]
    clear h1 h2 hS hT o1 o2 e1 e2 hn
    go_enter Try.func63, Try.ntmps63
    go_wp2_with fail
    go_ret
    exact ⟨rfl, 0, rfl⟩
end Go.Proofs.Ytnphnaggamfoiaa
