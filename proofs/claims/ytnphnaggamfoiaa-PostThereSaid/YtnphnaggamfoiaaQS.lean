/- S1, S2, S3 in one text. -/
import Derived.Test.YtnphnaggamfoiaaC8
import Derived.Lib.SmallJoins
import Derived.Test.YtnphnaggamfoiaaL5
import Derived.Test.YtnphnaggamfoiaaE9
namespace Go.Proofs.Ytnphnaggamfoiaa
open Go.RowKit
set_option maxRecDepth 20000
set_option linter.unusedVariables false
set_option linter.unusedSimpArgs false
section
set_option maxHeartbeats 4000000 in
theorem lsameents_any (S T : Nat → Prop) (A1 A2 : Option Addr) (n1 n2 c1 c2 : Nat) (l1 l2 : List En) (w : World) (h1 : Rd w S 4 (.slice A1 n1 c1) n1 (rowE l1)) (hS : ∀ i, S i → i < w.heap.size) (o1 : ∀ x ∈ l1, x.ok w S) (e1 : l1.length = n1)
    (h2 : Rd w T 4 (.slice A2 n2 c2) n2 (rowE l2)) (hT : ∀ i, T i → i < w.heap.size) (o2 : ∀ x ∈ l2, x.ok w T) (e2 : l2.length = n2) :
    Calls Try.prog 65 #[.slice A1 n1 c1, .slice A2 n2 c2] w fun e w' => e = .returned (.bool (eqEs (l1.map En.ed) (l2.map En.ed))) ∧ ∃ n, w' = w.drewN n := by
  have hcap1 := h1.cap.2
  have hcap2 := h2.cap.2
  unfold maxLen at hcap1 hcap2
  obtain ⟨a1, a2⟩ := hcap1
  obtain ⟨a3, a4⟩ := hcap2
  by_cases hn : n1 = n2
  · have hn' : ((n1 : Int) != (n2 : Int)) = false := by simp [hn]
    have H1 := Lib.hid h1
    have H2 := Lib.hid h2
    have HS := Lib.hid hS
    have HT := Lib.hid hT
    have O1 := Lib.hid o1
    have O2 := Lib.hid o2
    have E1 := Lib.hid e1
    have E2 := Lib.hid e2
    have HN := Lib.hid hn
    clear h1 h2 hS hT o1 o2 e1 e2 hn
    go_enter Try.func65, Try.ntmps65
    go_wp2_with fail
    go_loopw [5] (fun i wr => ∃ k : Nat, k ≤ n1 ∧ i = .int .i64 k ∧ (∃ n, wr = w.drewN n) ∧ eqEs (l1.map En.ed) (l2.map En.ed) = eqEs ((l1.map En.ed).drop k) ((l2.map En.ed).drop k)) (fun i _ => n1 - (intOf i).toNat)
    case atStart => exact ⟨0, Nat.zero_le _, rfl, ⟨0, rfl⟩, rfl⟩
    case round =>
      obtain ⟨k, hk, rfl, hw, he⟩ := hrel
      obtain ⟨wv, rfl⟩ : ∃ wv, wv = wr := ⟨_, rfl⟩
      have HW := Lib.hid hw
      have HC : Hid (∀ a, wv.cell? a = w.cell? a) := Lib.hid (by obtain ⟨n, rfl⟩ := hw; intro a; rfl)
      have HBW : Hid (Below w.heap.size w wv) := Lib.hid (by obtain ⟨n, rfl⟩ := hw; exact BdN (B0 w) n)
      clear hw
      by_cases hlt : k < n1
      · have hlt2 : k < n2 := by have := HN.out; omega
        have hi1 : (k : Int) < (n1 : Int) := by omega
        have hi2 : (k : Int) < (n2 : Int) := by omega
        have hk0 : (0 : Int) ≤ (k : Int) := by omega
        have hk1 : k < l1.length := by have := E1.out; omega
        have hk2 : k < l2.length := by have := E2.out; omega
        rw [eqEs_drop (by simpa using hk1) (by simpa using hk2)] at he
        obtain ⟨g, og, hA, hg, hc⟩ := rd_ents H1.out E1.out hlt
        obtain ⟨g', og', hA', hg', hc'⟩ := rd_ents H2.out E2.out hlt2
        subst hA hA'
        have q1 := O1.out _ (List.getElem_mem hk1)
        have q2 := O2.out _ (List.getElem_mem hk2)
        rw [show (l1.map En.ed)[k]'(by simpa using hk1) = (l1[k]).ed by simp, show (l2.map En.ed)[k]'(by simpa using hk2) = (l2[k]).ed by simp] at he
        obtain ⟨x, hx⟩ : ∃ x, x = l1[k] := ⟨_, rfl⟩
        obtain ⟨y, hy⟩ : ∃ y, y = l2[k] := ⟨_, rfl⟩
        rw [← hx] at he hc q1
        rw [← hy] at he hc' q2
        obtain ⟨xte, xix, xki, xA, xc, xbs⟩ := x
        obtain ⟨yte, yix, yki, yA, yc, ybs⟩ := y
        have d0 := (HC.out _).trans (hc 0 _ (by omega) rfl)
        have d1 := (HC.out _).trans (hc 1 _ (by omega) rfl)
        have d2 := (HC.out _).trans (hc 2 _ (by omega) rfl)
        have d3 := (HC.out _).trans (hc 3 _ (by omega) rfl)
        have f0 := (HC.out _).trans (hc' 0 _ (by omega) rfl)
        have f1 := (HC.out _).trans (hc' 1 _ (by omega) rfl)
        have f2 := (HC.out _).trans (hc' 2 _ (by omega) rfl)
        have f3 := (HC.out _).trans (hc' 3 _ (by omega) rfl)
        simp only [Nat.add_zero] at d0 f0
        simp only [En.ed] at he
        have HE := Lib.hid he
        have Q1 := Lib.hid q1.1
        have Q2 := Lib.hid q2.1
        simp only at Q1 Q2
        clear he hx hy hc hc' q1 q2 hg hg'
        have HF : Hid (edB ⟨xte, xix, xki, xbs⟩ ⟨yte, yix, yki, ybs⟩ = false → eqEs (l1.map En.ed) (l2.map En.ed) = false) := Lib.hid (fun h => by rw [HE.out, h]; rfl)
        cases x0 : (xte == yte)
        · have z0 : (xte != yte) = true := by rw [bne, x0]; rfl
          have X0 := Lib.hid x0
          clear x0
          go_wp2
          go_quiet (fail)
          go_wp2
          go_ret
          exact ⟨ret_bool (HF.out (by simp [edB, X0.out])).symm, drew_more HW.out nq⟩
        · have z0 : (xte != yte) = false := by rw [bne, x0]; rfl
          cases x1 : (xix == yix)
          · have z1 : (xix != yix) = true := by rw [bne, x1]; rfl
            have X0 := Lib.hid x0
            have X1 := Lib.hid x1
            clear x0 x1
            go_wp2
            go_quiet (fail)
            go_wp2
            go_ret
            exact ⟨ret_bool (HF.out (by simp [edB, X1.out])).symm, drew_more HW.out nq⟩
          · have z1 : (xix != yix) = false := by rw [bne, x1]; rfl
            cases x2 : (xki == yki)
            · have z2 : (xki != yki) = true := by rw [bne, x2]; rfl
              have X0 := Lib.hid x0
              have X1 := Lib.hid x1
              have X2 := Lib.hid x2
              clear x0 x1 x2
              go_wp2
              go_quiet (fail)
              go_wp2
              go_ret
              exact ⟨ret_bool (HF.out (by simp [edB, X2.out])).symm, drew_more HW.out nq⟩
            · have z2 : (xki != yki) = false := by rw [bne, x2]; rfl
              cases x3 : eqB xbs ybs
              · have X0 := Lib.hid x0
                have X1 := Lib.hid x1
                have X2 := Lib.hid x2
                have X3 := Lib.hid x3
                clear x0 x1 x2 x3
                go_wp2
                go_quiet ((go_at_call 24; exact eq_quiet (Q1.out.below HBW.out HS.out) (fun i hi => Nat.lt_of_lt_of_le (HS.out i hi) HBW.out.size) (Q2.out.below HBW.out HT.out) (fun i hi => Nat.lt_of_lt_of_le (HT.out i hi) HBW.out.size) X3.out _))
                go_wp2
                go_ret
                exact ⟨ret_bool (HF.out (by simp [edB, X3.out])).symm, drew_more HW.out nq⟩
              · have X0 := Lib.hid x0
                have X1 := Lib.hid x1
                have X2 := Lib.hid x2
                have X3 := Lib.hid x3
                clear x0 x1 x2 x3
                go_wp2
                go_quiet ((go_at_call 24; exact eq_quiet (Q1.out.below HBW.out HS.out) (fun i hi => Nat.lt_of_lt_of_le (HS.out i hi) HBW.out.size) (Q2.out.below HBW.out HT.out) (fun i hi => Nat.lt_of_lt_of_le (HT.out i hi) HBW.out.size) X3.out _))
                go_wp2
                go_roundw
                case rel => exact ⟨k + 1, by omega, by go_num, drew_more HW.out nq, by rw [HE.out]; simp [edB, X0.out, X1.out, X2.out, X3.out]⟩
                case measure => simp [intOf]; omega
      · have HE := Lib.hid he
        clear he
        go_wp2
        go_ret
        refine ⟨ret_bool ?_, HW.out⟩
        rw [HE.out, List.drop_eq_nil_of_le (by have := E1.out; simp; omega), List.drop_eq_nil_of_le (by have := E2.out; have := HN.out; simp; omega)]
        rfl
  · have hn' : ((n1 : Int) != (n2 : Int)) = true := by simp; omega
    rw [eqEs_len (by simp only [List.length_map]; omega)]
    clear h1 h2 hS hT o1 o2 e1 e2 hn
    go_enter Try.func65, Try.ntmps65
    go_wp2_with fail
    go_ret
    exact ⟨rfl, 0, rfl⟩

set_option maxHeartbeats 4000000 in
theorem lsame_yes (S T : Nat → Prop) (kd fr tq te ix lt co : Int) (ok : Bool) (hi : Int) (EA EA' : Option Addr) (en ec ec' : Nat) (si st sc : Int) (SA SA' : Option Addr) (sn sk sk' : Nat) (l m : List En) (d : List Int) (w : World)
    (hp : PoAt w S ⟨kd, fr, tq, te, ix, lt, co, ok, hi, EA, en, ec, si, st, sc, SA, sn, sk⟩ l d) (hq : PoAt w T ⟨kd, fr, tq, te, ix, lt, co, ok, hi, EA', en, ec', si, st, sc, SA', sn, sk'⟩ m d) (hlm : l.map En.ed = m.map En.ed) :
    Calls Try.prog 31 #[Po.v ⟨kd, fr, tq, te, ix, lt, co, ok, hi, EA, en, ec, si, st, sc, SA, sn, sk⟩, Po.v ⟨kd, fr, tq, te, ix, lt, co, ok, hi, EA', en, ec', si, st, sc, SA', sn, sk'⟩] w fun e w' => e = .returned (.bool true) ∧ Below w.heap.size w w' := by
  have HP := Lib.hid hp
  have HQ := Lib.hid hq
  have HL := Lib.hid (show eqEs (l.map En.ed) (m.map En.ed) = true by rw [hlm]; exact eqEs_refl _)
  have hdl : d.length = sn := hp.dlen
  clear hp hq hlm
  subst hdl
  simp only [Po.v, Po.cs]
  go_enter Try.func31, Try.ntmps31
  go_wp2_with fail
  go_region
  all_goals (go_wp2_with (first
    | (go_at_call 65; refine (lsameents_any S T EA EA' en en ec ec' l m _ (HP.out.below (Bd (Ba (Ba (Ba (Ba (B0 w) _) _) _) _))).rd (HP.out.below (Bd (Ba (Ba (Ba (Ba (B0 w) _) _) _) _))).lt (HP.out.below (Bd (Ba (Ba (Ba (Ba (B0 w) _) _) _) _))).each HP.out.len (HQ.out.below (Bd (Ba (Ba (Ba (Ba (B0 w) _) _) _) _))).rd (HQ.out.below (Bd (Ba (Ba (Ba (Ba (B0 w) _) _) _) _))).lt (HQ.out.below (Bd (Ba (Ba (Ba (Ba (B0 w) _) _) _) _))).each HQ.out.len).mono ?_; rintro e w1 ⟨rfl, nd, rfl⟩; rw [HL.out])
    | (go_at_call 24; go_loud (refine (eq_bytes S T _ _ d d _ (HP.out.below (BdN (Ba (Ba (Ba (Ba (B0 w) _) _) _) _) (1 + nd))).data (HQ.out.below (BdN (Ba (Ba (Ba (Ba (B0 w) _) _) _) _) (1 + nd))).data).mono ?_; rintro e w2 ⟨rfl, nd2, rfl⟩; rw [show eqB d d = true by simp [eqB]]))))
  all_goals go_ret
  all_goals exact ⟨rfl, by repeat (first | exact B0 _ | apply Bd | apply BdN | apply Ba)⟩
end

section
def usB : List Int := [3, 1, 3, 0, 0, 0, 0, 0, 0, 5, 0, 0, 0, 0, 0, 0, 7, 0, 0, 0, 0, 0, 0, 4, 0, 0, 0, 0, 0, 0, 0, 0, 0, 0, 0, 0, 0, 0, 1, 0, 0, 0, 0, 0, 0, 5, 0, 0, 1, 120]
abbrev usP (A : Option Addr) : Po := ⟨3, 1, 3, 5, 7, 4, 0, false, 0, A, 1, 1, 0, 0, 0, none, 0, 0⟩
def usE : Ed := ⟨5, 8, 0, [120]⟩
def UsDid (w : World) (e : Ending) (w' : World) : Prop :=
  ∃ A B l, e = .returned (.tuple #[(usP A).v, .slice B 50 50]) ∧ PoAt w' (fun i => w.heap.size ≤ i ∧ i < w'.heap.size) (usP A) l [] ∧ l.map En.ed = [usE] ∧ Rd w' (fun i => w.heap.size ≤ i ∧ i < w'.heap.size) 1 (.slice B 50 50) 50 (bts usB) ∧ Below w.heap.size w w'
theorem rd_row {w : World} {S : Nat → Prop} {g sz n : Nat} {cs : List Value} (hS : S g) (hl : cs.length = n * sz) (hn : n ≤ maxLen) (hc : ∀ j : Nat, w.cell? ⟨g, j, none⟩ = cs[j]?) : Rd w S sz (.slice (some ⟨g, 0, none⟩) n n) n cs :=
  ⟨hl, _, n, rfl, Nat.le_refl _, hn, fun _ => ⟨g, 0, rfl, hS, fun j u hu => by rw [Nat.zero_add, hc, hu]⟩⟩
theorem us_at (w : World) (o1 o4 : Obj) : UsDid w (.returned (.tuple #[(usP (some ⟨w.heap.size + 1 + 1, 0, none⟩)).v, .slice (some ⟨w.heap.size + 1 + 1 + 1 + 1, 0, none⟩) 50 50]))
    (((((w.alloc o1).alloc (.cells #[.int .u8 120] 5 (1, 2))).alloc (.cells #[.int .i64 5, .int .i64 8, .int .i64 0, .slice (some ⟨w.heap.size + 1, 0, none⟩) 1 1] 46)).alloc o4).alloc (.cells (bts usB).toArray 5)) := by
  obtain ⟨w2, h2⟩ : ∃ u, u = (w.alloc o1).alloc (.cells #[.int .u8 120] 5 (1, 2)) := ⟨_, rfl⟩
  have c2 : ∀ j : Nat, w2.cell? ⟨w.heap.size + 1, j, none⟩ = (#[.int .u8 120] : Array Value)[j]? := fun j => by rw [h2]; exact Go.Joins.cell_alloc_mark_at (w.alloc o1) _ _ _ _ j (by simp)
  have s2 : w2.heap.size = w.heap.size + 1 + 1 := by rw [h2]; simp
  have b2 : Below w.heap.size w w2 := by rw [h2]; exact Ba (Ba (B0 w) _) _
  rw [← h2]
  clear h2
  obtain ⟨w3, h3⟩ : ∃ u, u = w2.alloc (.cells #[.int .i64 5, .int .i64 8, .int .i64 0, .slice (some ⟨w.heap.size + 1, 0, none⟩) 1 1] 46) := ⟨_, rfl⟩
  have k3 : Blk w3 (w.heap.size + 1 + 1) 46 #[.int .i64 5, .int .i64 8, .int .i64 0, .slice (some ⟨w.heap.size + 1, 0, none⟩) 1 1] := by rw [h3, ← s2]; exact Blk.new _ _ _
  have s3 : w3.heap.size = w.heap.size + 1 + 1 + 1 := by rw [h3]; simp [s2]
  have b3 : Below w2.heap.size w2 w3 := by rw [h3]; exact Ba (B0 w2) _
  rw [← h3]
  clear h3
  have k5 := Blk.new (w3.alloc o4) 5 (bts usB).toArray
  have s4 : (w3.alloc o4).heap.size = w.heap.size + 1 + 1 + 1 + 1 := by simp [s3]
  rw [s4] at k5
  have s5 : ((w3.alloc o4).alloc (.cells (bts usB).toArray 5)).heap.size = w.heap.size + 1 + 1 + 1 + 1 + 1 := by simp [s3]
  have b5 : Below w3.heap.size w3 ((w3.alloc o4).alloc (.cells (bts usB).toArray 5)) := Ba (Ba (B0 w3) _) _
  obtain ⟨w5, h5⟩ : ∃ u, u = (w3.alloc o4).alloc (.cells (bts usB).toArray 5) := ⟨_, rfl⟩
  rw [← h5] at k5 s5 b5 ⊢
  clear h5 s4
  have k35 := k3.later b5
  have c5 : ∀ j : Nat, w5.cell? ⟨w.heap.size + 1, j, none⟩ = (#[.int .u8 120] : Array Value)[j]? := fun j => by
    rw [← c2 j]
    exact ((Bt b3 b5).cell (p := ⟨w.heap.size + 1, j, none⟩) (by show w.heap.size + 1 < w2.heap.size; omega))
  refine ⟨_, _, [⟨5, 8, 0, some ⟨w.heap.size + 1, 0, none⟩, 1, [120]⟩], rfl, ⟨fun i hi => hi.2, rfl, by show (1 : Nat) ≤ _; omega, ?_, ?_, rfl, by show (0 : Nat) ≤ _; omega, Rd.nil _ _ _⟩, rfl, ?_, Bt b2 (Bt b3 b5)⟩
  · exact rd_row (n := 1) (by show _ ∧ _; omega) rfl (by simp [maxLen]) (fun j => (k35.cell j).trans (by simp [rowE, En.cells]))
  · intro x hx
    simp only [List.mem_singleton] at hx
    subst hx
    exact ⟨rd_row (n := 1) (by show _ ∧ _; omega) rfl (by simp [maxLen]) (fun j => (c5 j).trans (by simp [bts])), by show (1 : Nat) ≤ _; omega⟩
  · exact rd_row (n := 50) (by show _ ∧ _; omega) rfl (by simp [maxLen]) (fun j => by rw [k5.cell j]; simp)
set_option maxHeartbeats 4000000 in
theorem usual_any (w : World) : Calls Try.prog 21 #[] w (UsDid w) := by
  have hcv := Go.Joins.run_convert_bytes_const_at (P := Try.prog) (w.alloc (.cells #[.int .i64 0, .int .i64 0, .int .i64 0, .int .i64 0, .int .i64 0, .int .i64 0, .int .i64 0, .bool false, .int .i64 0, .slice none 0 0, .int .i64 0, .int .i64 0, .int .i64 0, .slice none 0 0] 27)) 23 5 #[.int .u8 120] 1 1 (w.heap.size + 1) (by simp) Try.underlying23 Try.underlying5
  go_enter Try.func21, Try.ntmps21
  go_wp2_with fail
  refine bodyPost_ret (v := .tuple #[(usP (some ⟨w.heap.size + 1 + 1, 0, none⟩)).v, .slice (some ⟨w.heap.size + 1 + 1 + 1 + 1, 0, none⟩) 50 50]) (by simp [results, Try.results21, go_sem]) rfl ?_
  exact us_at w _ _
end

section
theorem us_chk (A : Option Addr) : chkB (usP A) [usE] = true := rfl
theorem us_pack (A : Option Addr) : packP (usP A) [usE] [] = usB := by
  rw [packP_app (may_of (us_chk A)) rfl rfl]
  rfl
theorem us_full : Full (usP none) [usE] [] := ⟨may_of (us_chk none), rfl, rfl, by intro x hx; simp only [List.mem_singleton] at hx; subst hx; intro y hy; simp [usE] at hy; omega, by intro x hx; simp at hx⟩
theorem us_byt : Byt usB := by
  rw [← us_pack none, packP_app (may_of (us_chk none)) rfl rfl]
  have h := us_full
  intro x hx
  exact pack_byt h x hx
theorem us_un : (uZ usB).e = 0 ∧ uP0 usB = (usP none).norm ∧ uL0 usB = [usE] ∧ uD0 usB = [] := by
  have h := unpack_cut us_full (us_chk none) (r := []) (by intro x hx; simp at hx) (packB (usP none) [usE] []).length (ys := usB) (by
    rw [List.append_nil, List.take_length, ← us_pack none, packP_app (may_of (us_chk none)) rfl rfl])
  rcases h with h | h
  · omega
  · exact h.2.2 rfl

def TrueB (w : World) (e : Ending) (w' : World) : Prop := e = .returned (.bool true) ∧ Below w.heap.size w w'
theorem norm_eq {P Q : Po} (h : P.norm = Q.norm) : ∃ A c S k, P = { Q with EA := A, ec := c, SA := S, sk := k } :=
  ⟨P.EA, P.ec, P.SA, P.sk, by cases P; cases Q; simp [Po.norm] at h ⊢; exact h⟩
set_option maxHeartbeats 4000000 in
theorem awake_any (w : World) : Calls Try.prog 17 #[] w (TrueB w) := by
  go_enter Try.func17, Try.ntmps17
  go_wp2_with fail
  refine (usual_any w).mono ?_
  rintro e w1 ⟨A, B, l, rfl, hp, hl, hr, hb⟩
  have HL := Lib.hid hl
  go_wp2_with fail
  obtain ⟨wg, hwg⟩ : ∃ u, u = w1.alloc (.cells (usP A).cs 27) := ⟨_, rfl⟩
  have HG := Lib.hid (show Blk wg w1.heap.size 27 (usP A).cs by rw [hwg]; exact Blk.new _ _ _)
  have hb1 : Below w1.heap.size w1 wg := by rw [hwg]; exact Ba (B0 w1) _
  have HP := Lib.hid (hp.below hb1)
  have HR := Lib.hid (hr.below hb1 (fun i hi => hi.2))
  have HB := Lib.hid (Bt hb hb1)
  have HT := Lib.hid (show ∀ i, (w.heap.size ≤ i ∧ i < w1.heap.size) → i < wg.heap.size from fun i hi => Nat.lt_of_lt_of_le hi.2 hb1.size)
  have hsz := hb1.size
  rw [← hwg]
  clear hwg hp hr hb hb1 hl
  refine (pack_ok _ (usP A) l [] wg HP.out (by rw [HL.out]; exact us_chk A)).mono ?_
  rw [HL.out, us_pack]
  rintro e w2 ⟨A2, c2, rfl, hf⟩
  have hk := hf.kept
  replace HG := Lib.hid (HG.out.later hk)
  replace HP := Lib.hid (HP.out.below hk)
  replace HR := Lib.hid (HR.out.below hk HT.out)
  replace HB := Lib.hid (Bt HB.out hk)
  replace HT := Lib.hid (show ∀ i, (w.heap.size ≤ i ∧ i < w1.heap.size) → i < w2.heap.size from fun i hi => Nat.lt_of_lt_of_le (HT.out i hi) hk.size)
  have HF := Lib.hid hf.rd
  clear hf hk
  go_wp2_with fail
  refine (un_any _ B 50 usB w2 HR.out HT.out us_byt (by show (50 : Nat) ≤ _; omega)).mono ?_
  rintro e w3 ⟨Q, m, d, rfl, hq, hk, hcase⟩
  obtain ⟨u0, u1, u2, u3⟩ := us_un
  rcases hcase with ⟨_, hn, hm, hd⟩ | ⟨h, _⟩
  · rw [u1] at hn
    rw [u2] at hm
    rw [u3] at hd
    subst hd
    obtain ⟨A3, c3, S3, k3, rfl⟩ := norm_eq hn
    rw [u0]
    have HM := Lib.hid hm
    replace HG := Lib.hid (HG.out.later hk)
    replace HP := Lib.hid (HP.out.below hk)
    replace HR := Lib.hid (HR.out.below hk HT.out)
    replace HB := Lib.hid (Bt HB.out hk)
    replace HT := Lib.hid (show ∀ i, (w.heap.size ≤ i ∧ i < w1.heap.size) → i < w3.heap.size from fun i hi => Nat.lt_of_lt_of_le (HT.out i hi) hk.size)
    have HF2 := Lib.hid (show ∀ i, i < w2.heap.size → i < w3.heap.size from fun i hi => Nat.lt_of_lt_of_le hi hk.size)
    replace HF := Lib.hid (HF.out.below hk (fun _ h => h))
    clear hk hn hm
    go_wp2_with fail
    obtain ⟨wq, hwq⟩ : ∃ u, u = w3.alloc (.cells (Po.cs ⟨3, 1, 3, 5, 7, 4, 0, false, 0, A3, 1, c3, 0, 0, 0, S3, 0, k3⟩) 27) := ⟨_, rfl⟩
    have HGQ := Lib.hid (show Blk wq w3.heap.size 27 (Po.cs ⟨3, 1, 3, 5, 7, 4, 0, false, 0, A3, 1, c3, 0, 0, 0, S3, 0, k3⟩) by rw [hwq]; exact Blk.new _ _ _)
    have hk : Below w3.heap.size w3 wq := by rw [hwq]; exact Ba (B0 w3) _
    rw [← hwq]
    clear hwq
    have HQ := Lib.hid (hq.below hk)
    replace HG := Lib.hid (HG.out.later hk)
    replace HP := Lib.hid (HP.out.below hk)
    replace HR := Lib.hid (HR.out.below hk HT.out)
    replace HB := Lib.hid (Bt HB.out hk)
    replace HF := Lib.hid (HF.out.below hk HF2.out)
    clear hk hq
    refine (eq_bytes _ _ _ _ usB usB wq HF.out HR.out).mono ?_
    rintro e w4 ⟨rfl, nd, hw4⟩
    rw [show eqB usB usB = true by simp [eqB]]
    have hk : Below wq.heap.size wq w4 := by rw [hw4]; exact BdN (B0 wq) nd
    replace HQ := Lib.hid (HQ.out.below hk)
    replace HG := Lib.hid (HG.out.later hk)
    replace HGQ := Lib.hid (HGQ.out.later hk)
    replace HP := Lib.hid (HP.out.below hk)
    replace HB := Lib.hid (Bt HB.out hk)
    clear hk hw4
    obtain ⟨x0, x1, x2, x3, x4, x5, x6, x7, x8, x9, x10, x11, x12, x13⟩ := blk14 HG.out
    obtain ⟨z0, z1, z2, z3, z4, z5, z6, z7, z8, z9, z10, z11, z12, z13⟩ := blk14 HGQ.out
    go_wp2_with fail
    refine (lsame_yes _ _ 3 1 3 5 7 4 0 false 0 A A3 1 1 c3 0 0 0 none S3 0 0 k3 l m [] w4 HP.out HQ.out (HL.out.trans HM.out.symm)).mono ?_
    rintro e w5 ⟨rfl, hk⟩
    replace HG := Lib.hid (HG.out.later hk)
    replace HP := Lib.hid (HP.out.below hk)
    replace HB := Lib.hid (Bt HB.out hk)
    clear hk x0 x1 x2 x3 x4 x5 x6 x7 x8 x9 x10 x11 x12 x13 z0 z1 z2 z3 z4 z5 z6 z7 z8 z9 z10 z11 z12 z13
    obtain ⟨x0, x1, x2, x3, x4, x5, x6, x7, x8, x9, x10, x11, x12, x13⟩ := blk14 HG.out
    go_wp2_with fail
    refine (check_any _ (usP A) l w5 HP.out.rd HP.out.lt HP.out.len HP.out.most HP.out.dmost).mono ?_
    rw [chkE_yes (show chkB (usP A) (l.map En.ed) = true by rw [HL.out]; exact us_chk A)]
    rintro e w6 ⟨rfl, hk⟩
    replace HB := Lib.hid (Bt HB.out hk)
    clear hk x0 x1 x2 x3 x4 x5 x6 x7 x8 x9 x10 x11 x12 x13
    go_wp2_with fail
    go_ret
    exact ⟨rfl, HB.out⟩
  · exact absurd u0 h
end
end Go.Proofs.Ytnphnaggamfoiaa
