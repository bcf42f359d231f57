/- As the tick goes on a key that does not count does not come to count again: PeersLater. -/
import Derived.Test.YtgmndppjdnpejaaB19
namespace Go.Proofs.Ytgmndppjdnpejaa
open Go.RowKit
set_option maxRecDepth 20000
set_option linter.unusedVariables false
set_option linter.unusedSimpArgs false

theorem open_int1 {H : Type} {enc : TypeId × Value → H} {W : World} {sp : Nat → Bool} {held : Bool} {fuel : Nat} {cs : List Value} {x : DataW H × List MemPlace} (hf : DataW.trod enc Try.prog W 0 sp held fuel 3 cs = some x) :
    ∃ a : Int, cs = [Value.int .i64 a] ∧ (-9223372036854775808 ≤ a ∧ a < 9223372036854775808) := by
  obtain ⟨a, e, _, w⟩ := DataW.trod_int Try.underlying3 hf
  exact ⟨a, e, i64_wf w⟩
theorem ints_flat : ∀ l : List Int, l.flatMap (fun a : Int => [Value.int .i64 a]) = ints l
  | [] => rfl
  | x :: l => by rw [List.flatMap_cons, ints_flat l]; rfl
theorem open_intl {H : Type} {enc : TypeId × Value → H} {W : World} {base : Nat} {sp : Nat → Bool} {held : Bool} {v : Value} {d : DataW H} {pl : List MemPlace} (hv : Value.okWide Try.prog W .any base 51 v) (ht : DataW.Trod enc Try.prog W 0 sp held 51 v d pl) :
    ∃ (A : Option Addr) (c : Nat) (l : List Int), v = .slice A l.length c ∧ Rd W (fun i => i < W.heap.size) 1 (.slice A l.length c) l.length (ints l) ∧ ∀ x ∈ l, -9223372036854775808 ≤ x ∧ x < 9223372036854775808 := by
  obtain ⟨a1, len, cap, rfl⟩ := Go.WideShapes.okWide_slice Try.underlying51 hv
  obtain ⟨fuel, hf⟩ := ht
  obtain ⟨A, c, l, e, hr, hq⟩ := open_rows Try.underlying51 cint_cells (by omega) (fun a : Int => [Value.int .i64 a]) (fun a => -9223372036854775808 ≤ a ∧ a < 9223372036854775808) (fun _ _ => rfl) open_int1 hf
  have e2 := ints_flat l
  rw [e2] at hr
  exact ⟨A, c, l, by simpa [Value.cells] using e, hr, hq⟩
theorem pkN_mono {t t' : Int} {ps : List Pe} {n : Int} (h : t ≤ t') (hp : (pkN t' ps n).isSome = true) : (pkN t ps n).isSome = true := by
  unfold pkN at hp ⊢
  cases hq : lkN ps n with
  | none => rw [hq] at hp; simp at hp
  | some p =>
    rw [hq] at hp
    simp only [Option.filter_some] at hp ⊢
    by_cases h2 : t' < p.ex
    · simp [show t < p.ex by omega]
    · simp [h2] at hp
theorem listN_mono {t t' : Int} (ps : List Pe) (h : t ≤ t') : ∀ k, (listN t' ps k).length ≤ (listN t ps k).length
  | 0 => Nat.le_refl _
  | k + 1 => by
    have ih := listN_mono ps h k
    unfold listN
    by_cases h1 : (pkN t' ps ((k : Int) + 1)).isSome = true
    · rw [if_pos h1, if_pos (pkN_mono h h1), List.length_append, List.length_append]
      omega
    · rw [if_neg h1]
      split
      · rw [List.length_append]; omega
      · exact ih
set_option maxHeartbeats 2000000 in
theorem peersLater_at (m : Nm) (A : Option Addr) (c : Nat) (ts : List Int) (W : World) (hm : NmAt W (fun i => i < W.heap.size) m) (hr : Rd W (fun i => i < W.heap.size) 1 (.slice A ts.length c) ts.length (ints ts)) :
    Calls Try.prog 6 #[m.v, .slice A ts.length c] W fun e w' => e = .returned (.bool true) ∧ Below W.heap.size W w' := by
  obtain ⟨w1, hw1⟩ : ∃ u, u = W.alloc (.cells m.L.toArray 34) := ⟨_, rfl⟩
  have hb1 : Below W.heap.size W w1 := by rw [hw1]; exact Ba (B0 W) _
  have HG := Lib.hid (show Blk w1 W.heap.size 34 m.L.toArray by rw [hw1]; exact Blk.new _ _ _)
  have HB1 := Lib.hid hb1
  have HW1 := Lib.hid hw1
  have HM := Lib.hid (hm.below hb1 (fun _ h => h))
  have HML := Lib.hid (Nm.len hm.k32)
  have HR := Lib.hid hr
  have hcap := hr.cap.2
  have hc1 := hcap.1
  have hc2 := hcap.2
  unfold maxLen at hc2
  clear hm hb1 hw1 hr hcap
  go_enter Try.func6, Try.ntmps6
  go_upto_region 1 with fail
  change Code.wp _ _ _ _ (W.alloc (.cells m.L.toArray 34))
  rw [← HW1.out]
  go_wp2_with fail
  refine (works_any w1).mono ?_
  rintro e w2 ⟨rfl, hb2⟩
  have HB2 := Lib.hid (Bt HB1.out hb2)
  have HG2 := Lib.hid (HG.out.later hb2)
  have HM2 := Lib.hid (HM.out.below hb2 (fun i hi => by have := HB1.out.size; omega))
  clear hb2
  go_wp2_with (first | (refine step_load big_map rfl (.tmp 2) rfl W.heap.size 0 rfl m.L HML.out (blk_range HG2.out) ?_) | fail)
  refine (table_any _ m w2 HM2.out (fun i hi => Nat.lt_of_lt_of_le hi HB2.out.size)).mono ?_
  rintro e w3 (⟨hno, rfl, hb3⟩ | ⟨hyes, g, S, qs, rfl, ht, hpx, hb3, hSB⟩)
  · have HB3 := Lib.hid (Bt HB2.out hb3)
    clear hb3 hno
    go_wp2_with fail
    go_ret
    exact ⟨rfl, HB3.out⟩
  · have HB3 := Lib.hid (Bt HB2.out hb3)
    have HT := Lib.hid ht
    have hn1 := (nm_ok hyes).node.1
    have HGW := Lib.hid (show W.heap.size ≤ g from Nat.le_trans HB2.out.size (hSB g ht.1))
    clear hb3 ht hpx hyes hSB
    go_wp2_with fail
    refine (list_any S g m.node 0 m.ver qs w3 HT.out hn1).mono ?_
    obtain ⟨L0, hL0⟩ : ∃ l, l = listN 0 qs 8 := ⟨_, rfl⟩
    rw [← hL0]
    have HL0 := Lib.hid hL0
    clear hL0
    rintro e w4 ⟨A4, c4, rfl, _, hb4⟩
    replace HT := Lib.hid (HT.out.below hb4)
    replace HB3 := Lib.hid (Bt HB3.out hb4)
    clear hb4
    go_wp2_with fail
    go_loopw [6, 7, 8] (fun no mn i wr => ∃ (k : Nat) (t : Int), k ≤ ts.length ∧ k ≤ 20 ∧ i = .int .i64 k ∧ no = .int .i64 t ∧ mn = .int .i64 ((listN t qs 8).length : Nat) ∧ 0 ≤ t ∧ t ≤ 9007199254740991 ∧ TbAt wr S g m.node t m.ver qs ∧ Below W.heap.size W wr) (fun _ _ i _ => ts.length - (intOf i).toNat)
    case atStart => exact ⟨0, 0, by omega, by omega, rfl, rfl, by rw [HL0.out], by omega, by omega, HT.out, HB3.out⟩
    case round =>
      obtain ⟨k, t, hk, hk20, rfl, rfl, rfl, ht0, ht1, htb, hbw⟩ := hrel
      obtain ⟨wv, rfl⟩ : ∃ wv, wv = wr := ⟨_, rfl⟩
      have HTV := Lib.hid htb
      have HBV := Lib.hid hbw
      obtain ⟨L1, hL1⟩ : ∃ l, l = (listN t qs 8).length := ⟨_, rfl⟩
      rw [← hL1]
      have HL1 := Lib.hid hL1
      have hl8 := listN_len t qs 8
      rw [← hL1] at hl8
      clear htb hbw hL1
      by_cases hlt : k < ts.length
      · have hlt' : (k : Int) < (ts.length : Int) := by omega
        have hk0 : (0 : Int) ≤ (k : Int) := by omega
        by_cases h20 : k < 20
        · have h20' : (k : Int) < 20 := by omega
          obtain ⟨gt, ot, hA, hgt, hc⟩ := HR.out.some_ (by omega)
          subst hA
          obtain ⟨x, hx⟩ : ∃ x, x = ts[k] := ⟨_, rfl⟩
          have d0 : wv.cell? ⟨gt, ot + k, none⟩ = some (.int .i64 x) := (HBV.out.cell (p := ⟨gt, ot + k, none⟩) hgt).trans (hc k _ (by rw [ints_at ts k hlt, hx]))
          clear hc hx
          go_wp2_with fail
          refine (bring_any x 9007199254740992 wv (by omega)).mono ?_
          rintro e w' ⟨rfl, rfl⟩
          obtain ⟨hn0, hn1'⟩ := bringF_lt x 9007199254740992 (by omega)
          obtain ⟨n, hn⟩ : ∃ n, n = bringF x 9007199254740992 := ⟨_, rfl⟩
          rw [← hn] at hn0 hn1' ⊢
          clear hn d0
          go_wp2_with fail
          refine (now_any S g m.node t m.ver n qs wv HTV.out hn1).mono ?_
          by_cases hnt : n < t
          · have e1 : nowE t n = 201 := by unfold nowE; rw [if_neg (by omega), if_pos hnt]
            have e2 : nowT t n = t := by unfold nowT; rw [e1, if_neg (by decide)]
            rintro e w5 ⟨rfl, htb, hm5⟩
            rw [e1]
            rw [e2] at htb
            have HT5 := Lib.hid htb
            have HB5 := Lib.hid (Bm HBV.out hm5 (fun i hi => by subst hi; exact HGW.out))
            clear htb hm5 e1 e2
            have hd : decide (t ≤ n) = false := decide_eq_false (by omega)
            go_wp2_with fail
            refine (list_any S g m.node t m.ver qs w5 HT5.out hn1).mono ?_
            rintro e w6 ⟨A6, c6, rfl, _, hb6⟩
            rw [← HL1.out]
            replace HT5 := Lib.hid (HT5.out.below hb6)
            replace HB5 := Lib.hid (Bt HB5.out hb6)
            clear hb6
            go_wp2_with fail
            refine (list_any S g m.node t m.ver qs w6 HT5.out hn1).mono ?_
            rintro e w7 ⟨A7, c7, rfl, _, hb7⟩
            rw [← HL1.out]
            replace HT5 := Lib.hid (HT5.out.below hb7)
            replace HB5 := Lib.hid (Bt HB5.out hb7)
            clear hb7
            go_wp2_with fail
            go_roundw
            case rel => exact ⟨k + 1, t, by omega, by omega, by go_num, rfl, by rw [HL1.out], by omega, by omega, HT5.out, HB5.out⟩
            case measure => simp [intOf]; omega
          · have e1 : nowE t n = 0 := by unfold nowE; rw [if_neg (by omega), if_neg hnt]
            have e2 : nowT t n = n := by unfold nowT; rw [e1, if_pos rfl]
            rintro e w5 ⟨rfl, htb, hm5⟩
            rw [e1]
            rw [e2] at htb
            have HT5 := Lib.hid htb
            have HB5 := Lib.hid (Bm HBV.out hm5 (fun i hi => by subst hi; exact HGW.out))
            have hmo := listN_mono (t := t) (t' := n) qs (by omega) 8
            rw [← HL1.out] at hmo
            clear htb hm5 e1 e2
            obtain ⟨L2, hL2⟩ : ∃ l, l = (listN n qs 8).length := ⟨_, rfl⟩
            rw [← hL2] at hmo
            have HL2 := Lib.hid hL2
            clear hL2
            have hmo' : ¬ (L1 : Int) < (L2 : Int) := by omega
            have hd : decide (t ≤ n) = true := decide_eq_true (by omega)
            have hd2 : t ≤ n := by omega
            go_wp2_with fail
            refine (list_any S g m.node n m.ver qs w5 HT5.out hn1).mono ?_
            rintro e w6 ⟨A6, c6, rfl, _, hb6⟩
            rw [← HL2.out]
            replace HT5 := Lib.hid (HT5.out.below hb6)
            replace HB5 := Lib.hid (Bt HB5.out hb6)
            clear hb6
            go_wp2_with fail
            refine (list_any S g m.node n m.ver qs w6 HT5.out hn1).mono ?_
            rintro e w7 ⟨A7, c7, rfl, _, hb7⟩
            rw [← HL2.out]
            replace HT5 := Lib.hid (HT5.out.below hb7)
            replace HB5 := Lib.hid (Bt HB5.out hb7)
            clear hb7
            go_wp2_with fail
            go_roundw
            case rel => exact ⟨k + 1, n, by omega, by omega, by go_num, rfl, by rw [HL2.out], by omega, by omega, HT5.out, HB5.out⟩
            case measure => simp [intOf]; omega
        · obtain rfl : k = 20 := by omega
          go_wp2_with fail
          go_ret
          exact ⟨rfl, HBV.out⟩
      · obtain rfl : k = ts.length := by omega
        go_wp2_with fail
        go_ret
        exact ⟨rfl, HBV.out⟩
theorem peersLater_walk {H : Type} {enc : TypeId × Value → H} (W : World) {base : Nat} {sp : Nat → Bool} {held : Bool} {v v1 : Value} {d d1 : DataW H} {pl pl1 : List MemPlace} (hv : Value.okWide Try.prog W .any base 34 v) (ht : DataW.Trod enc Try.prog W 0 sp held 34 v d pl)
    (hz : ∀ n ∈ d.weights Try.prog 34, n ≤ reachBytes) (hv1 : Value.okWide Try.prog W .any base 51 v1) (ht1 : DataW.Trod enc Try.prog W 0 sp held 51 v1 d1 pl1) (hz1 : ∀ n ∈ d1.weights Try.prog 51, n ≤ reachBytes) :
    Calls Try.prog 6 #[v, v1] W fun e w' => e = .returned (.bool true) ∧ Below W.heap.size W w' := by
  obtain ⟨m, rfl, hm⟩ := open_map hv ht
  obtain ⟨A, c, l, rfl, hr, _⟩ := open_intl hv1 ht1
  exact peersLater_at m A c l W hm hr
end Go.Proofs.Ytgmndppjdnpejaa
