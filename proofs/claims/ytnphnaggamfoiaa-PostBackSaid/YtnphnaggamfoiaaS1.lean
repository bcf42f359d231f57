/- Walks of the statements' own helpers: lists of entries, messages compared. -/
import Derived.Test.YtnphnaggamfoiaaC8
namespace Go.Proofs.Ytnphnaggamfoiaa
open Go.RowKit
set_option maxRecDepth 20000
set_option linter.unusedVariables false
set_option linter.unusedSimpArgs false

set_option maxHeartbeats 4000000 in
theorem lsameents_any (S T : Nat → Prop) (A1 A2 : Option Addr) (n1 n2 c1 c2 : Nat) (l1 l2 : List En) (w : World) (h1 : Rd w S 4 (.slice A1 n1 c1) n1 (rowE l1)) (hS : ∀ i, S i → i < w.heap.size) (o1 : ∀ x ∈ l1, x.ok w S) (e1 : l1.length = n1)
    (h2 : Rd w T 4 (.slice A2 n2 c2) n2 (rowE l2)) (hT : ∀ i, T i → i < w.heap.size) (o2 : ∀ x ∈ l2, x.ok w T) (e2 : l2.length = n2) :
    Calls Try.prog 65 #[.slice A1 n1 c1, .slice A2 n2 c2] w fun e w' => e = .returned (.bool (eqEs (l1.map En.ed) (l2.map En.ed))) ∧ ∃ n, w' = w.drewN n := by
  have hcap1 := h1.cap.2
  have hcap2 := h2.cap.2
  unfold maxLen at hcap1 hcap2
  obtain ⟨a1, a2⟩ := hcap1
  obtain ⟨a3, a4⟩ := hcap2
  by_cases hn : n1 = n2
  · have hn' : ((n1 : Int) != (n2 : Int)) = false := by simp [hn]
    have H1 := Lib.hid h1
    have H2 := Lib.hid h2
    have HS := Lib.hid hS
    have HT := Lib.hid hT
    have O1 := Lib.hid o1
    have O2 := Lib.hid o2
    have E1 := Lib.hid e1
    have E2 := Lib.hid e2
    have HN := Lib.hid hn
    clear h1 h2 hS hT o1 o2 e1 e2 hn
    go_enter Try.func65, Try.ntmps65
    go_wp2_with fail
    go_loopw [5] (fun i wr => ∃ k : Nat, k ≤ n1 ∧ i = .int .i64 k ∧ (∃ n, wr = w.drewN n) ∧ eqEs (l1.map En.ed) (l2.map En.ed) = eqEs ((l1.map En.ed).drop k) ((l2.map En.ed).drop k)) (fun i _ => n1 - (intOf i).toNat)
    case atStart => exact ⟨0, Nat.zero_le _, rfl, ⟨0, rfl⟩, rfl⟩
    case round =>
      obtain ⟨k, hk, rfl, hw, he⟩ := hrel
      obtain ⟨wv, rfl⟩ : ∃ wv, wv = wr := ⟨_, rfl⟩
      have HW := Lib.hid hw
      have HC : Hid (∀ a, wv.cell? a = w.cell? a) := Lib.hid (by obtain ⟨n, rfl⟩ := hw; intro a; rfl)
      have HBW : Hid (Below w.heap.size w wv) := Lib.hid (by obtain ⟨n, rfl⟩ := hw; exact BdN (B0 w) n)
      clear hw
      by_cases hlt : k < n1
      · have hlt2 : k < n2 := by have := HN.out; omega
        have hi1 : (k : Int) < (n1 : Int) := by omega
        have hi2 : (k : Int) < (n2 : Int) := by omega
        have hk0 : (0 : Int) ≤ (k : Int) := by omega
        have hk1 : k < l1.length := by have := E1.out; omega
        have hk2 : k < l2.length := by have := E2.out; omega
        rw [eqEs_drop (by simpa using hk1) (by simpa using hk2)] at he
        obtain ⟨g, og, hA, hg, hc⟩ := rd_ents H1.out E1.out hlt
        obtain ⟨g', og', hA', hg', hc'⟩ := rd_ents H2.out E2.out hlt2
        subst hA hA'
        have q1 := O1.out _ (List.getElem_mem hk1)
        have q2 := O2.out _ (List.getElem_mem hk2)
        rw [show (l1.map En.ed)[k]'(by simpa using hk1) = (l1[k]).ed by simp, show (l2.map En.ed)[k]'(by simpa using hk2) = (l2[k]).ed by simp] at he
        obtain ⟨x, hx⟩ : ∃ x, x = l1[k] := ⟨_, rfl⟩
        obtain ⟨y, hy⟩ : ∃ y, y = l2[k] := ⟨_, rfl⟩
        rw [← hx] at he hc q1
        rw [← hy] at he hc' q2
        obtain ⟨xte, xix, xki, xA, xc, xbs⟩ := x
        obtain ⟨yte, yix, yki, yA, yc, ybs⟩ := y
        have d0 := (HC.out _).trans (hc 0 _ (by omega) rfl)
        have d1 := (HC.out _).trans (hc 1 _ (by omega) rfl)
        have d2 := (HC.out _).trans (hc 2 _ (by omega) rfl)
        have d3 := (HC.out _).trans (hc 3 _ (by omega) rfl)
        have f0 := (HC.out _).trans (hc' 0 _ (by omega) rfl)
        have f1 := (HC.out _).trans (hc' 1 _ (by omega) rfl)
        have f2 := (HC.out _).trans (hc' 2 _ (by omega) rfl)
        have f3 := (HC.out _).trans (hc' 3 _ (by omega) rfl)
        simp only [Nat.add_zero] at d0 f0
        simp only [En.ed] at he
        have HE := Lib.hid he
        have Q1 := Lib.hid q1.1
        have Q2 := Lib.hid q2.1
        simp only at Q1 Q2
        clear he hx hy hc hc' q1 q2 hg hg'
        have HF : Hid (edB ⟨xte, xix, xki, xbs⟩ ⟨yte, yix, yki, ybs⟩ = false → eqEs (l1.map En.ed) (l2.map En.ed) = false) := Lib.hid (fun h => by rw [HE.out, h]; rfl)
        cases x0 : (xte == yte)
        · have z0 : (xte != yte) = true := by rw [bne, x0]; rfl
          have X0 := Lib.hid x0
          clear x0
          go_wp2
          go_quiet (fail)
          go_wp2
          go_ret
          exact ⟨ret_bool (HF.out (by simp [edB, X0.out])).symm, drew_more HW.out nq⟩
        · have z0 : (xte != yte) = false := by rw [bne, x0]; rfl
          cases x1 : (xix == yix)
          · have z1 : (xix != yix) = true := by rw [bne, x1]; rfl
            have X0 := Lib.hid x0
            have X1 := Lib.hid x1
            clear x0 x1
            go_wp2
            go_quiet (fail)
            go_wp2
            go_ret
            exact ⟨ret_bool (HF.out (by simp [edB, X1.out])).symm, drew_more HW.out nq⟩
          · have z1 : (xix != yix) = false := by rw [bne, x1]; rfl
            cases x2 : (xki == yki)
            · have z2 : (xki != yki) = true := by rw [bne, x2]; rfl
              have X0 := Lib.hid x0
              have X1 := Lib.hid x1
              have X2 := Lib.hid x2
              clear x0 x1 x2
              go_wp2
              go_quiet (fail)
              go_wp2
              go_ret
              exact ⟨ret_bool (HF.out (by simp [edB, X2.out])).symm, drew_more HW.out nq⟩
            · have z2 : (xki != yki) = false := by rw [bne, x2]; rfl
              cases x3 : eqB xbs ybs
              · have X0 := Lib.hid x0
                have X1 := Lib.hid x1
                have X2 := Lib.hid x2
                have X3 := Lib.hid x3
                clear x0 x1 x2 x3
                go_wp2
                go_quiet ((go_at_call 24; exact eq_quiet (Q1.out.below HBW.out HS.out) (fun i hi => Nat.lt_of_lt_of_le (HS.out i hi) HBW.out.size) (Q2.out.below HBW.out HT.out) (fun i hi => Nat.lt_of_lt_of_le (HT.out i hi) HBW.out.size) X3.out _))
                go_wp2
                go_ret
                exact ⟨ret_bool (HF.out (by simp [edB, X3.out])).symm, drew_more HW.out nq⟩
              · have X0 := Lib.hid x0
                have X1 := Lib.hid x1
                have X2 := Lib.hid x2
                have X3 := Lib.hid x3
                clear x0 x1 x2 x3
                go_wp2
                go_quiet ((go_at_call 24; exact eq_quiet (Q1.out.below HBW.out HS.out) (fun i hi => Nat.lt_of_lt_of_le (HS.out i hi) HBW.out.size) (Q2.out.below HBW.out HT.out) (fun i hi => Nat.lt_of_lt_of_le (HT.out i hi) HBW.out.size) X3.out _))
                go_wp2
                go_roundw
                case rel => exact ⟨k + 1, by omega, by go_num, drew_more HW.out nq, by rw [HE.out]; simp [edB, X0.out, X1.out, X2.out, X3.out]⟩
                case measure => simp [intOf]; omega
      · have HE := Lib.hid he
        clear he
        go_wp2
        go_ret
        refine ⟨ret_bool ?_, HW.out⟩
        rw [HE.out, List.drop_eq_nil_of_le (by have := E1.out; simp; omega), List.drop_eq_nil_of_le (by have := E2.out; have := HN.out; simp; omega)]
        rfl
  · have hn' : ((n1 : Int) != (n2 : Int)) = true := by simp; omega
    rw [eqEs_len (by simp only [List.length_map]; omega)]
    clear h1 h2 hS hT o1 o2 e1 e2 hn
    go_enter Try.func65, Try.ntmps65
    go_wp2_with fail
    go_ret
    exact ⟨rfl, 0, rfl⟩

set_option maxHeartbeats 4000000 in
theorem lsame_yes (S T : Nat → Prop) (kd fr tq te ix lt co : Int) (ok : Bool) (hi : Int) (EA EA' : Option Addr) (en ec ec' : Nat) (si st sc : Int) (SA SA' : Option Addr) (sn sk sk' : Nat) (l m : List En) (d : List Int) (w : World)
    (hp : PoAt w S ⟨kd, fr, tq, te, ix, lt, co, ok, hi, EA, en, ec, si, st, sc, SA, sn, sk⟩ l d) (hq : PoAt w T ⟨kd, fr, tq, te, ix, lt, co, ok, hi, EA', en, ec', si, st, sc, SA', sn, sk'⟩ m d) (hlm : l.map En.ed = m.map En.ed) :
    Calls Try.prog 31 #[Po.v ⟨kd, fr, tq, te, ix, lt, co, ok, hi, EA, en, ec, si, st, sc, SA, sn, sk⟩, Po.v ⟨kd, fr, tq, te, ix, lt, co, ok, hi, EA', en, ec', si, st, sc, SA', sn, sk'⟩] w fun e w' => e = .returned (.bool true) ∧ Below w.heap.size w w' := by
  have HP := Lib.hid hp
  have HQ := Lib.hid hq
  have HL := Lib.hid (show eqEs (l.map En.ed) (m.map En.ed) = true by rw [hlm]; exact eqEs_refl _)
  have hdl : d.length = sn := hp.dlen
  clear hp hq hlm
  subst hdl
  simp only [Po.v, Po.cs]
  go_enter Try.func31, Try.ntmps31
  go_wp2_with fail
  go_region
  all_goals (go_wp2_with (first
    | (go_at_call 65; refine (lsameents_any S T EA EA' en en ec ec' l m _ (HP.out.below (Bd (Ba (Ba (Ba (Ba (B0 w) _) _) _) _))).rd (HP.out.below (Bd (Ba (Ba (Ba (Ba (B0 w) _) _) _) _))).lt (HP.out.below (Bd (Ba (Ba (Ba (Ba (B0 w) _) _) _) _))).each HP.out.len (HQ.out.below (Bd (Ba (Ba (Ba (Ba (B0 w) _) _) _) _))).rd (HQ.out.below (Bd (Ba (Ba (Ba (Ba (B0 w) _) _) _) _))).lt (HQ.out.below (Bd (Ba (Ba (Ba (Ba (B0 w) _) _) _) _))).each HQ.out.len).mono ?_; rintro e w1 ⟨rfl, nd, rfl⟩; rw [HL.out])
    | (go_at_call 24; go_loud (refine (eq_bytes S T _ _ d d _ (HP.out.below (BdN (Ba (Ba (Ba (Ba (B0 w) _) _) _) _) (1 + nd))).data (HQ.out.below (BdN (Ba (Ba (Ba (Ba (B0 w) _) _) _) _) (1 + nd))).data).mono ?_; rintro e w2 ⟨rfl, nd2, rfl⟩; rw [show eqB d d = true by simp [eqB]]))))
  all_goals go_ret
  all_goals exact ⟨rfl, by repeat (first | exact B0 _ | apply Bd | apply BdN | apply Ba)⟩
end Go.Proofs.Ytnphnaggamfoiaa
