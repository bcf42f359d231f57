/- The statement WireEats: its walk. -/
import Derived.Test.YtodijebpoipeiaaY8
namespace Go.Proofs.Ytodijebpoipeiaa
open Go.RowKit
set_option maxRecDepth 20000
set_option linter.unusedVariables false
set_option linter.unusedSimpArgs false

set_option maxHeartbeats 4000000 in
theorem eats_walk1 (W : World) (A : Option Addr) (c : Nat) (xs : List Int) (hxb : Byt xs) (hxl : xs.length ≤ 140737488351232) (hxr : Rd W (fun i => i < W.heap.size) 1 (.slice A xs.length c) xs.length (bts xs)) (Al : Option Addr) (cc : Nat) (cl : List Cl) (hr : ClsRd W Al cc cl) :
    Calls Try.prog 4 #[.slice A xs.length c, .slice Al cl.length cc] W fun e w' => e = .returned (.bool true) ∧ Below W.heap.size W w' := by
  have hcl : cl.length ≤ 9223372036854775807 := Nat.le_trans hr.cap hr.most
  have hcl1 : cl.length ≤ cc := hr.cap
  have HC := Lib.hid hr
  have HB := Lib.hid hxb
  have HR := Lib.hid hxr
  have HL := Lib.hid hxl
  clear hr hxb hxr hxl
  go_enter Try.func4, Try.ntmps4
  go_wp2_with fail
  refine (copy_bytes _ _ xs W HR.out (by have := HL.out; omega)).mono ?_
  rintro e w1 ⟨A1, c1, rfl, HF1⟩
  have HO1 := Lib.hid HF1.own
  have HB1 := Lib.hid HF1.kept
  clear HF1
  go_wp2_with fail
  refine (rnew_any _ A1 c1 xs _ (Rd.of_own HO1.out) (fun i hi => own_lt HO1.out i hi) (by have := HL.out; omega)).mono ?_
  rintro e w2 ⟨r, S1, rfl, hr2, hb2, hS1⟩
  have HR2 := Lib.hid hr2
  have HB2 := Lib.hid hb2
  have HS1 := Lib.hid hS1
  clear hr2 hb2 hS1
  go_wp2_with fail
  refine (unew_any _ A c xs _ (HR.out.below (Bt HB1.out HB2.out) (fun i hi => hi)) (fun i hi => Nat.lt_of_lt_of_le hi (Bt HB1.out HB2.out).size) (by have := HL.out; omega)).mono ?_
  rintro e w3 ⟨s, S2, rfl, hr3, hb3, hS2⟩
  have HR3 := Lib.hid hr3
  have HB3 := Lib.hid hb3
  have HS2 := Lib.hid hS2
  clear hr3 hb3 hS2
  go_wp2_with fail
  refine (eq_bytes _ _ _ _ xs xs _ (Rd.of_own (own_below (own_below HO1.out HB2.out) HB3.out)) (HR.out.below (Bt (Bt HB1.out HB2.out) HB3.out) (fun i hi => hi))).mono ?_
  rintro e w4 ⟨rfl, n4, rfl⟩
  rw [eqB_self]
  go_wp2_with fail
  have HO4 := Lib.hid (own_below (own_below (own_below HO1.out HB2.out) HB3.out) (BdN (B0 w3) n4))
  refine (spoil_row HO4.out HB.out (by have := HL.out; omega)).mono ?_
  rintro e w5 ⟨rfl, hm5⟩
  have hE : Et W w5 S1 S2 r s xs := by
    have l1 := own_lt HO1.out
    have g1 := own_ge HO1.out
    have k1 := HS1.out
    have k2 := HS2.out
    have z1 := HB1.out.size
    have z2 := HB2.out.size
    have z3 := HB3.out.size
    refine ⟨Bm (BdN (Bt (Bt HB1.out HB2.out) HB3.out) n4) hm5 (fun i hi => g1 i hi), HB.out, by have := HL.out; omega, (((HR2.out.below HB3.out).below (BdN (B0 w3) n4)).kept hm5 (fun i hi hk => ?_)), ((HR3.out.below (BdN (B0 w3) n4)).kept hm5 (fun i hi hk => ?_)), fun i hi => Nat.le_trans z1 (k1 i hi), fun i hi => ?_, fun i hi h2 => ?_⟩
    · have := k1 i hi; have := l1 i hk; omega
    · have := k2 i hi; have := l1 i hk; omega
    · have := k2 i hi; omega
    · have := k2 i h2; have := HR2.out.lt i hi; omega
  have HE0 := Lib.hid hE
  clear hE hm5 HO4 HR2 HR3 HB1 HB2 HB3 HO1 HS1 HS2
  go_wp2_with fail
  go_loopw [8] (fun i wr => ∃ (k : Nat) (L : List Int), k ≤ cl.length ∧ k ≤ 60 ∧ i = .int .i64 k ∧ Et W wr S1 S2 r s L) (fun i _ => 60 - (intOf i).toNat)
  case atStart => exact ⟨0, xs, Nat.zero_le _, by omega, rfl, HE0.out⟩
  case round =>
    obtain ⟨k, L, hk, hk6, rfl, hE⟩ := hrel
    have HE := Lib.hid hE
    clear HE0
    by_cases hlt : k < cl.length
    · by_cases h60 : k < 60
      · have hlt2 : (k : Int) < (cl.length : Int) := by omega
        have h602 : (k : Int) < 60 := by omega
        obtain ⟨g, o, rfl, hgW, hca⟩ := HC.out.at_ k hlt
        obtain ⟨x, hx⟩ : ∃ x, x = cl[k] := ⟨_, rfl⟩
        rw [← hx] at hca
        clear hx
        obtain ⟨_, c0, c1', c2, _⟩ := hca
        have hbW := hE.hb
        have b0 := (hbW.cell (p := ⟨g, o + k * 4, none⟩) hgW).trans c0
        have b1 := (hbW.cell (p := ⟨g, o + k * 4 + 1, none⟩) hgW).trans c1'
        have b2 := (hbW.cell (p := ⟨g, o + k * 4 + 2, none⟩) hgW).trans c2
        obtain ⟨q, hq⟩ : ∃ q, q = bringF x.what 3 := ⟨_, rfl⟩
        have hq3 := bring3' x.what
        rw [← hq] at hq3
        have HQ := Lib.hid hq
        clear c0 c1' c2 hE hbW hq
        rcases hq3 with rfl | rfl | rfl
        · go_wp2_with (go_at_call 14; refine (bring_any x.what 3 _ (by omega)).mono ?_; rintro e w' ⟨rfl, rfl⟩; rw [← HQ.out])
          refine (get_any S1 r L x.size _ HE.out.rd HE.out.bl).mono ?_
          rintro e w6 ⟨rfl, hd1⟩
          have hf6 := HE.out.mid hd1
          have hW6 := Bm HE.out.hb hd1.1 HE.out.n1
          have d2 := (hW6.cell (p := ⟨g, o + k * 4 + 2, none⟩) hgW).trans ((HE.out.hb.cell (p := ⟨g, o + k * 4 + 2, none⟩) hgW).symm.trans b2)
          have HF6 := Lib.hid hf6
          have HD1 := Lib.hid hd1
          have HO1 := trivial
          clear hf6 hd1 hW6
          go_wp2_with fail
          refine (uget_any S2 s L x.size _ HF6.out HE.out.bl).mono ?_
          rintro e w7 ⟨rfl, hd2⟩
          have hX := HE.out.both (A3 := none) (c3 := 0) (A4 := none) (c4 := 0) (xs := []) (L' := getL L x.size) (getL_byt HE.out.bl _) (getL_len _) Byt.nil (by simp) HD1.out hd2 (World.ownsRow_nil _ _ _ _) (World.ownsRow_nil _ _ _ _)
          have HX := Lib.hid hX
          clear hX hd2 HD1 HF6 HE b0 b1 b2 d2
          go_wp2_with fail
          refine (eq_bytes _ _ _ _ _ _ _ (Rd.of_own HX.out.ox) (Rd.of_own HX.out.oy)).mono ?_
          rintro e w8 ⟨rfl, hw8⟩
          rw [eqB_self]
          have hbn8 : Below w7.heap.size w7 w8 := by obtain ⟨n, rfl⟩ := hw8; exact BdN (B0 _) n
          have HX8 := Lib.hid (HX.out.below hbn8)
          clear hw8 hbn8
          go_wp2_with fail
          refine (left_any S1 r _ _ HX8.out.et.rd).mono ?_
          rintro e w9 ⟨rfl, hw9⟩
          have hbn9 : Below w8.heap.size w8 w9 := by obtain ⟨n, rfl⟩ := hw9; exact BdN (B0 _) n
          have HX9 := Lib.hid (HX8.out.below hbn9)
          clear hw9 hbn9
          go_wp2_with fail
          refine (uleft_any S2 s _ _ HX9.out.et.rf).mono ?_
          rintro e w10 ⟨rfl, hw10⟩
          have hbn10 : Below w9.heap.size w9 w10 := by obtain ⟨n, rfl⟩ := hw10; exact BdN (B0 _) n
          have HX10 := Lib.hid (HX9.out.below hbn10)
          clear hw10 hbn10
          go_wp2_with fail
          refine (end_any S1 r _ _ HX10.out.et.rd).mono ?_
          rintro e w11 ⟨rfl, hw11⟩
          have hbn11 : Below w10.heap.size w10 w11 := by obtain ⟨n, rfl⟩ := hw11; exact BdN (B0 _) n
          have HX11 := Lib.hid (HX10.out.below hbn11)
          clear hw11 hbn11
          go_wp2_with fail
          refine (uend_any S2 s _ _ HX11.out.et.rf).mono ?_
          rintro e w12 ⟨rfl, hw12⟩
          have hbn12 : Below w11.heap.size w11 w12 := by obtain ⟨n, rfl⟩ := hw12; exact BdN (B0 _) n
          have HX12 := Lib.hid (HX11.out.below hbn12)
          clear hw12 hbn12
          go_wp2_with fail
          refine (spoil_row HX12.out.ox HX12.out.bx HX12.out.lx).mono ?_
          rintro e w13 ⟨rfl, hm13⟩
          have HE13 := Lib.hid (HX12.out.spoiled hm13)
          clear hm13
          go_wp2_with fail
          go_roundw
          case rel => exact ⟨k + 1, _, by omega, by omega, by go_num, HE13.out⟩
          case measure => simp [intOf]; omega
        · go_wp2_with (go_at_call 14; refine (bring_any x.what 3 _ (by omega)).mono ?_; rintro e w' ⟨rfl, rfl⟩; rw [← HQ.out])
          refine (rbytes_any S1 r L x.n _ HE.out.rd).mono ?_
          rintro e w6 ⟨A3, c3, rfl, ho1, hd1⟩
          have hf6 := HE.out.mid hd1
          have hW6 := Bm HE.out.hb hd1.1 HE.out.n1
          have d1 := (hW6.cell (p := ⟨g, o + k * 4 + 1, none⟩) hgW).trans ((HE.out.hb.cell (p := ⟨g, o + k * 4 + 1, none⟩) hgW).symm.trans b1)
          have HF6 := Lib.hid hf6
          have HD1 := Lib.hid hd1
          have HO1 := Lib.hid ho1
          clear hf6 hd1 hW6 ho1
          go_wp2_with fail
          refine (ubytes_any S2 s L x.n _ HF6.out).mono ?_
          rintro e w7 ⟨A4, c4, rfl, ho2, hd2⟩
          have hX := HE.out.both (L' := bytL L x.n) (bytL_byt HE.out.bl _) (bytL_len _) (bytV_byt HE.out.bl _) (bytV_len _) HD1.out hd2 HO1.out ho2
          have HX := Lib.hid hX
          clear hX hd2 ho2 HD1 HF6 HE b0 b1 b2 d1
          go_wp2_with fail
          refine (eq_bytes _ _ _ _ _ _ _ (Rd.of_own HX.out.ox) (Rd.of_own HX.out.oy)).mono ?_
          rintro e w8 ⟨rfl, hw8⟩
          rw [eqB_self]
          have hbn8 : Below w7.heap.size w7 w8 := by obtain ⟨n, rfl⟩ := hw8; exact BdN (B0 _) n
          have HX8 := Lib.hid (HX.out.below hbn8)
          clear hw8 hbn8
          go_wp2_with fail
          refine (left_any S1 r _ _ HX8.out.et.rd).mono ?_
          rintro e w9 ⟨rfl, hw9⟩
          have hbn9 : Below w8.heap.size w8 w9 := by obtain ⟨n, rfl⟩ := hw9; exact BdN (B0 _) n
          have HX9 := Lib.hid (HX8.out.below hbn9)
          clear hw9 hbn9
          go_wp2_with fail
          refine (uleft_any S2 s _ _ HX9.out.et.rf).mono ?_
          rintro e w10 ⟨rfl, hw10⟩
          have hbn10 : Below w9.heap.size w9 w10 := by obtain ⟨n, rfl⟩ := hw10; exact BdN (B0 _) n
          have HX10 := Lib.hid (HX9.out.below hbn10)
          clear hw10 hbn10
          go_wp2_with fail
          refine (end_any S1 r _ _ HX10.out.et.rd).mono ?_
          rintro e w11 ⟨rfl, hw11⟩
          have hbn11 : Below w10.heap.size w10 w11 := by obtain ⟨n, rfl⟩ := hw11; exact BdN (B0 _) n
          have HX11 := Lib.hid (HX10.out.below hbn11)
          clear hw11 hbn11
          go_wp2_with fail
          refine (uend_any S2 s _ _ HX11.out.et.rf).mono ?_
          rintro e w12 ⟨rfl, hw12⟩
          have hbn12 : Below w11.heap.size w11 w12 := by obtain ⟨n, rfl⟩ := hw12; exact BdN (B0 _) n
          have HX12 := Lib.hid (HX11.out.below hbn12)
          clear hw12 hbn12
          go_wp2_with fail
          refine (spoil_row HX12.out.ox HX12.out.bx HX12.out.lx).mono ?_
          rintro e w13 ⟨rfl, hm13⟩
          have HE13 := Lib.hid (HX12.out.spoiled hm13)
          clear hm13
          go_wp2_with fail
          go_roundw
          case rel => exact ⟨k + 1, _, by omega, by omega, by go_num, HE13.out⟩
          case measure => simp [intOf]; omega
        · go_wp2_with (go_at_call 14; refine (bring_any x.what 3 _ (by omega)).mono ?_; rintro e w' ⟨rfl, rfl⟩; rw [← HQ.out])
          refine (roctets_any S1 r L x.n _ HE.out.rd HE.out.bl).mono ?_
          rintro e w6 ⟨A3, c3, rfl, ho1, hd1⟩
          have hf6 := HE.out.mid hd1
          have hW6 := Bm HE.out.hb hd1.1 HE.out.n1
          have d1 := (hW6.cell (p := ⟨g, o + k * 4 + 1, none⟩) hgW).trans ((HE.out.hb.cell (p := ⟨g, o + k * 4 + 1, none⟩) hgW).symm.trans b1)
          have HF6 := Lib.hid hf6
          have HD1 := Lib.hid hd1
          have HO1 := Lib.hid ho1
          clear hf6 hd1 hW6 ho1
          go_wp2_with fail
          refine (uoctets_any S2 s L x.n _ HF6.out HE.out.bl).mono ?_
          rintro e w7 ⟨A4, c4, rfl, ho2, hd2⟩
          have hX := HE.out.both (L' := roL L x.n) (roL_byt HE.out.bl _) (roL_len _) (roV_byt HE.out.bl _) (roV_len _) HD1.out hd2 HO1.out ho2
          have HX := Lib.hid hX
          clear hX hd2 ho2 HD1 HF6 HE b0 b1 b2 d1
          go_wp2_with fail
          refine (eq_bytes _ _ _ _ _ _ _ (Rd.of_own HX.out.ox) (Rd.of_own HX.out.oy)).mono ?_
          rintro e w8 ⟨rfl, hw8⟩
          rw [eqB_self]
          have hbn8 : Below w7.heap.size w7 w8 := by obtain ⟨n, rfl⟩ := hw8; exact BdN (B0 _) n
          have HX8 := Lib.hid (HX.out.below hbn8)
          clear hw8 hbn8
          go_wp2_with fail
          refine (left_any S1 r _ _ HX8.out.et.rd).mono ?_
          rintro e w9 ⟨rfl, hw9⟩
          have hbn9 : Below w8.heap.size w8 w9 := by obtain ⟨n, rfl⟩ := hw9; exact BdN (B0 _) n
          have HX9 := Lib.hid (HX8.out.below hbn9)
          clear hw9 hbn9
          go_wp2_with fail
          refine (uleft_any S2 s _ _ HX9.out.et.rf).mono ?_
          rintro e w10 ⟨rfl, hw10⟩
          have hbn10 : Below w9.heap.size w9 w10 := by obtain ⟨n, rfl⟩ := hw10; exact BdN (B0 _) n
          have HX10 := Lib.hid (HX9.out.below hbn10)
          clear hw10 hbn10
          go_wp2_with fail
          refine (end_any S1 r _ _ HX10.out.et.rd).mono ?_
          rintro e w11 ⟨rfl, hw11⟩
          have hbn11 : Below w10.heap.size w10 w11 := by obtain ⟨n, rfl⟩ := hw11; exact BdN (B0 _) n
          have HX11 := Lib.hid (HX10.out.below hbn11)
          clear hw11 hbn11
          go_wp2_with fail
          refine (uend_any S2 s _ _ HX11.out.et.rf).mono ?_
          rintro e w12 ⟨rfl, hw12⟩
          have hbn12 : Below w11.heap.size w11 w12 := by obtain ⟨n, rfl⟩ := hw12; exact BdN (B0 _) n
          have HX12 := Lib.hid (HX11.out.below hbn12)
          clear hw12 hbn12
          go_wp2_with fail
          refine (spoil_row HX12.out.ox HX12.out.bx HX12.out.lx).mono ?_
          rintro e w13 ⟨rfl, hm13⟩
          have HE13 := Lib.hid (HX12.out.spoiled hm13)
          clear hm13
          go_wp2_with fail
          go_roundw
          case rel => exact ⟨k + 1, _, by omega, by omega, by go_num, HE13.out⟩
          case measure => simp [intOf]; omega
      · have hlt2 : (k : Int) < (cl.length : Int) := by omega
        have h602 : ¬ (k : Int) < 60 := by omega
        clear hE
        go_wp2_with fail
        refine (works_any wr).mono ?_
        rintro e w2 ⟨rfl, hb⟩
        go_wp2_with fail
        go_ret
        exact ⟨rfl, Bt HE.out.hb hb⟩
    · have hlt2 : ¬ (k : Int) < (cl.length : Int) := by omega
      clear hE
      go_wp2_with fail
      refine (works_any wr).mono ?_
      rintro e w2 ⟨rfl, hb⟩
      go_wp2_with fail
      go_ret
      exact ⟨rfl, Bt HE.out.hb hb⟩

theorem wireEats_walk {H : Type} {enc : TypeId × Value → H} (W : World) {base : Nat} {sp : Nat → Bool} {held : Bool} {v1 : Value} {d1 : DataW H} {p1 : List MemPlace} (hv1 : Value.okWide Try.prog W .any base 27 v1) (ht1 : DataW.Trod enc Try.prog W 0 sp held 27 v1 d1 p1) (hz1 : ∀ n ∈ d1.weights Try.prog 27, n ≤ reachBytes)
    {base2 : Nat} {sp2 : Nat → Bool} {held2 : Bool} {v2 : Value} {d2 : DataW H} {p2 : List MemPlace} (hv2 : Value.okWide Try.prog W .any base2 22 v2) (ht2 : DataW.Trod enc Try.prog W 0 sp2 held2 22 v2 d2 p2) (hz2 : ∀ n ∈ d2.weights Try.prog 22, n ≤ reachBytes) :
    Calls Try.prog 4 #[v1, v2] W fun e w' => e = .returned (.bool true) ∧ Below W.heap.size W w' := by
  obtain ⟨A, c, xs, rfl, hb, hl, hr⟩ := open_bytes hv1 ht1 hz1
  obtain ⟨Al, cc, l, rfl, hc⟩ := open_calls hv2 ht2 hz2
  exact eats_walk1 W A c xs hb hl hr Al cc l hc
end Go.Proofs.Ytodijebpoipeiaa
