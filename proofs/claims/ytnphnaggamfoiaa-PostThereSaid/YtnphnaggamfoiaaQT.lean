/- S5, M4 in one text. -/
import Derived.Test.YtnphnaggamfoiaaQS
import Derived.Test.YtnphnaggamfoiaaQM
namespace Go.Proofs.Ytnphnaggamfoiaa
open Go.RowKit
set_option maxRecDepth 20000
set_option linter.unusedVariables false
set_option linter.unusedSimpArgs false
section
/-- What may be wrong: nothing, too few bytes, or what they say. -/
def E34 (s : St) : Prop := s.e = 0 ∨ s.e = 3 ∨ s.e = 4
theorem E34.nx {s : St} {n : Nat} (hn : Sz n) (hb : s.Ok) (h : E34 s) : E34 (s.nx n) := by
  unfold St.nx
  split
  · unfold E34
    simp only
    rw [getE_sz hn hb]
    split <;> omega
  · exact h
theorem E34.fail {s : St} (b : Bool) (h : E34 s) : E34 (s.fail b 4) := by
  unfold St.fail
  split
  · split
    · exact .inr (.inr rfl)
    · exact h
  · exact h
theorem E34.sk {s : St} {n : Int} (hn : 0 ≤ n) (h : E34 s) : E34 (s.sk n) := by
  unfold St.sk
  split
  · unfold E34
    simp only
    unfold Wr.bytE
    rw [if_neg (by omega)]
    split <;> omega
  · exact h
theorem E34.ox {s : St} (hb : s.Ok) (h : E34 s) : E34 s.ox := (h.nx (n := 2) (.inr (.inl rfl)) hb).sk (St.num_bd (n := 2) (.inr (.inl rfl)) hb).1
theorem E34.n7 {s : St} (hb : s.Ok) (h : E34 s) : E34 (s.nx 7) := h.nx (.inr (.inr rfl)) hb
theorem E34.n1 {s : St} (hb : s.Ok) (h : E34 s) : E34 (s.nx 1) := h.nx (.inl rfl) hb
theorem E34.ent {s : St} (hb : s.Ok) (h : E34 s) : E34 (entS s) := ((h.n7 hb).n1 (hb.nx 7)).ox ((hb.nx 7).nx 1)
theorem E34.read : ∀ (n : Nat) {s : St}, s.Ok → E34 s → E34 (readS s n)
  | 0, _, _, h => h
  | n + 1, s, hb, h => E34.read n (entS_ok hb) (h.ent hb)
theorem E34.body {s : St} (kd : Int) (hb : s.Ok) (h : E34 s) : E34 (bS kd s) := by
  unfold bS
  split
  · exact (h.n7 hb).n7 (hb.nx 7)
  · split
    · exact (h.n1 hb).fail _
    · split
      · have ok4 : (rS3a s).Ok := (((hb.nx 7).nx 7).nx 7).nx 7
        exact E34.read _ (mx_Ok ok4) ((E34.n1 (s := rS3a s) ok4 ((((h.n7 hb).n7 (hb.nx 7)).n7 ((hb.nx 7).nx 7)).n7 (((hb.nx 7).nx 7).nx 7))).fail _)
      · split
        · exact (E34.n7 (s := s.fx) hb.fx ((h.n1 hb).fail _)).n7 (hb.fx.nx 7)
        · split
          · exact ((((h.n7 hb).n7 (hb.nx 7)).n7 ((hb.nx 7).nx 7)).n1 (((hb.nx 7).nx 7).nx 7)).ox ((((hb.nx 7).nx 7).nx 7).nx 1)
          · split
            · exact (h.n7 hb).n7 (hb.nx 7)
            · exact h
theorem un_e {ys : List Int} (hy : Byt ys) : E34 (uZ ys) := by
  have hok : St.Ok ⟨ys, 0⟩ := hy
  have okA : (uA ys).Ok := (hok.nx 1).fail _ _
  have eA : E34 (uA ys) := (E34.n1 (s := ⟨ys, 0⟩) hok (.inl rfl)).fail _
  have eH : E34 (uH ys) := ((eA.n1 okA).n1 (okA.nx 1)).n7 ((okA.nx 1).nx 1)
  exact (eH.body _ (((okA.nx 1).nx 1).nx 7)).fail _

set_option maxHeartbeats 4000000 in
theorem postOnce_at (W : World) (T : Nat → Prop) (A : Option Addr) (c : Nat) (ys : List Int) (hr : Rd W T 1 (.slice A ys.length c) ys.length (bts ys)) (hT : ∀ i, T i → i < W.heap.size) (hy : Byt ys) (hl : ys.length ≤ 140737488351232) :
    Calls Try.prog 10 #[.slice A ys.length c] W (TrueB W) := by
  have HR := Lib.hid hr
  have HT := Lib.hid hT
  have HY := Lib.hid hy
  have HL := Lib.hid hl
  clear hr hT hy hl
  go_enter Try.func10, Try.ntmps10
  go_wp2_with fail
  refine (un_any _ A c ys W HR.out HT.out HY.out HL.out).mono ?_
  rintro e w1 ⟨Q, m, d, rfl, hq, hk, hcase⟩
  have HB := Lib.hid hk
  have HQ := Lib.hid hq
  replace HR := Lib.hid (HR.out.below hk HT.out)
  clear hk hq
  obtain ⟨E, hE⟩ : ∃ E, E = (uZ ys).e := ⟨_, rfl⟩
  rw [← hE]
  rcases hcase with ⟨h0, hn, hm, hd⟩ | ⟨h0, rfl, rfl, rfl⟩
  · rw [← hE] at h0
    subst h0
    obtain ⟨i1, i2, i3, i4⟩ := unpack_inv HY.out hE.symm
    have hc : chkB Q (m.map En.ed) = true := by rw [← may_norm, hn, hm]; exact i1
    have hpk : packP Q (m.map En.ed) d = ys := by
      rw [packP_app (may_of hc) (by rw [List.length_map, HQ.out.len]) HQ.out.dlen, ← pack_norm, hn, hm, hd]
      exact i4.symm
    have HC := Lib.hid hc
    have HPK := Lib.hid hpk
    clear hE hn hm hd i1 i2 i3 i4 hc hpk
    go_wp2_with fail
    obtain ⟨wq, hwq⟩ : ∃ u, u = w1.alloc (.cells Q.cs 27) := ⟨_, rfl⟩
    have hk : Below w1.heap.size w1 wq := by rw [hwq]; exact Ba (B0 w1) _
    rw [← hwq]
    replace HQ := Lib.hid (HQ.out.below hk)
    replace HR := Lib.hid (HR.out.below hk (fun i hi => Nat.lt_of_lt_of_le (HT.out i hi) HB.out.size))
    have HW := Lib.hid (Nat.le_trans HB.out.size hk.size)
    replace HB := Lib.hid (Bt HB.out hk)
    clear hk hwq
    refine (pack_ok _ Q m d wq HQ.out HC.out).mono ?_
    rw [HPK.out]
    rintro e w2 ⟨A2, c2, rfl, hf⟩
    have hk := hf.kept
    replace HR := Lib.hid (HR.out.below hk (fun i hi => Nat.lt_of_lt_of_le (HT.out i hi) HW.out))
    replace HB := Lib.hid (Bt HB.out hk)
    have HF := Lib.hid hf.rd
    clear hf hk
    go_wp2_with fail
    refine (eq_bytes _ _ _ _ ys ys w2 HR.out HF.out).mono ?_
    rintro e w3 ⟨rfl, nd, hw3⟩
    rw [show eqB ys ys = true by simp [eqB]]
    have hk : Below w2.heap.size w2 w3 := by rw [hw3]; exact BdN (B0 w2) nd
    replace HB := Lib.hid (Bt HB.out hk)
    clear hk hw3
    go_wp2_with fail
    refine (awake_any w3).mono ?_
    rintro e w4 ⟨rfl, hk⟩
    replace HB := Lib.hid (Bt HB.out hk)
    clear hk
    go_wp2_with fail
    go_ret
    exact ⟨rfl, HB.out⟩
  · rw [← hE] at h0
    have h34 : E = 3 ∨ E = 4 := by
      have := un_e HY.out
      unfold E34 at this
      rw [← hE] at this
      omega
    clear hE
    have HZ : Hid (∀ w, Po.v (zPo 0 0 0 0) = .agg #[.int .i64 0] ∨ PoAt w (fun _ => False) (zPo 0 0 0 0) [] []) := Lib.hid (fun w => .inr (po_bare (fun i hi => hi.elim) ⟨rfl, rfl, rfl⟩ ⟨rfl, rfl, rfl⟩))
    rcases h34 with rfl | rfl
    · go_wp2_with fail
      obtain ⟨wq, hwq⟩ : ∃ u, u = w1.alloc (.cells (zPo 0 0 0 0).cs 27) := ⟨_, rfl⟩
      have hk : Below w1.heap.size w1 wq := by rw [hwq]; exact Ba (B0 w1) _
      rw [← hwq]
      replace HB := Lib.hid (Bt HB.out hk)
      clear hk hwq
      refine (lsame_yes (fun _ => False) (fun _ => False) 0 0 0 0 0 0 0 false 0 none none 0 0 0 0 0 0 none none 0 0 0 [] [] [] wq (po_bare (fun i hi => hi.elim) ⟨rfl, rfl, rfl⟩ ⟨rfl, rfl, rfl⟩) (po_bare (fun i hi => hi.elim) ⟨rfl, rfl, rfl⟩ ⟨rfl, rfl, rfl⟩) rfl).mono ?_
      rintro e w2 ⟨rfl, hk⟩
      replace HB := Lib.hid (Bt HB.out hk)
      clear hk
      go_wp2_with fail
      refine (awake_any w2).mono ?_
      rintro e w4 ⟨rfl, hk⟩
      replace HB := Lib.hid (Bt HB.out hk)
      clear hk
      go_wp2_with fail
      go_ret
      exact ⟨rfl, HB.out⟩
    · go_wp2_with fail
      obtain ⟨wq, hwq⟩ : ∃ u, u = w1.alloc (.cells (zPo 0 0 0 0).cs 27) := ⟨_, rfl⟩
      have hk : Below w1.heap.size w1 wq := by rw [hwq]; exact Ba (B0 w1) _
      rw [← hwq]
      replace HB := Lib.hid (Bt HB.out hk)
      clear hk hwq
      refine (lsame_yes (fun _ => False) (fun _ => False) 0 0 0 0 0 0 0 false 0 none none 0 0 0 0 0 0 none none 0 0 0 [] [] [] wq (po_bare (fun i hi => hi.elim) ⟨rfl, rfl, rfl⟩ ⟨rfl, rfl, rfl⟩) (po_bare (fun i hi => hi.elim) ⟨rfl, rfl, rfl⟩ ⟨rfl, rfl, rfl⟩) rfl).mono ?_
      rintro e w2 ⟨rfl, hk⟩
      replace HB := Lib.hid (Bt HB.out hk)
      clear hk
      go_wp2_with fail
      refine (awake_any w2).mono ?_
      rintro e w4 ⟨rfl, hk⟩
      replace HB := Lib.hid (Bt HB.out hk)
      clear hk
      go_wp2_with fail
      go_ret
      exact ⟨rfl, HB.out⟩
theorem postOnce_walk {H : Type} {enc : TypeId × Value → H} (W : World) {base : Nat} {sp : Nat → Bool} {held : Bool} {v : Value} {d : DataW H} {pl : List MemPlace} (hv : Value.okWide Try.prog W .any base 23 v) (ht : DataW.Trod enc Try.prog W 0 sp held 23 v d pl)
    (hz : ∀ n ∈ d.weights Try.prog 23, n ≤ reachBytes) :
    Calls Try.prog 10 #[v] W fun e w' => e = .returned (.bool true) ∧ Below W.heap.size W w' := by
  obtain ⟨A, c, xs, rfl, hb, hl, hr⟩ := open_bytes hv ht hz
  exact postOnce_at W _ A c xs hr (fun i hi => hi) hb hl
end

section
theorem E34.rop {s : St} (kd : Int) (hb : s.Ok) (h : E34 s) : E34 (ropS kd s) := by
  unfold ropS
  split
  · exact ((h.n1 hb).sk (by decide)).n7 ((hb.nx 1).sk _)
  · split
    · exact h.n1 hb
    · split
      · exact h.ox hb
      · split
        · exact h.n7 hb
        · exact h
theorem cun_e {ys : List Int} (hy : Byt ys) : E34 (vZ ys) := by
  have hok : St.Ok ⟨ys, 0⟩ := hy
  have ok2 : (v2 ys).Ok := (hok.nx 1).nx 7
  have e2 : E34 (v2 ys) := (E34.n1 (s := ⟨ys, 0⟩) hok (.inl rfl)).n7 (hok.nx 1)
  have eA : E34 (vA ys) := (e2.n1 ok2).fail _
  exact (eA.rop _ ((ok2.nx 1).fail _ _)).fail _

set_option maxHeartbeats 8000000 in
theorem postThere_at (W : World) (co : Co) (h32 : co.o.ks.length = 32) (hbk : Byt co.o.ks) (T : Nat → Prop) (A : Option Addr) (c : Nat) (ys : List Int) (hr : Rd W T 1 (.slice A ys.length c) ys.length (bts ys)) (hT : ∀ i, T i → i < W.heap.size) (hy : Byt ys) (hl : ys.length ≤ 140737488351232) :
    Calls Try.prog 13 #[co.v, .slice A ys.length c] W (TrueB W) := by
  have HK32 := Lib.hid h32
  have HR := Lib.hid hr
  have HT := Lib.hid hT
  have HY := Lib.hid hy
  have HL := Lib.hid hl
  have HG0 := Lib.hid (Blk.new W 36 co.L.toArray)
  clear hr hT hy hl
  cases hc : cmB co
  · have HC := Lib.hid hc
    clear hc hbk h32
    go_enter Try.func13, Try.ntmps13
    go_wp2_with (first | (refine step_load36 rfl (.tmp 2) rfl W.heap.size rfl co HK32.out (blk_range HG0.out) ?_) | fail)
    obtain ⟨wg, hwg⟩ : ∃ u, u = W.alloc (.cells co.L.toArray 36) := ⟨_, rfl⟩
    have hk : Below W.heap.size W wg := by rw [hwg]; exact Ba (B0 W) _
    replace HR := Lib.hid (HR.out.below hk HT.out)
    have HB := Lib.hid hk
    rw [← hwg]
    clear hwg hk HG0
    refine (cmd_bad co wg HK32.out HC.out).mono ?_
    rintro e w2 ⟨rfl, hk⟩
    replace HR := Lib.hid (HR.out.below hk (fun i hi => Nat.lt_of_lt_of_le (HT.out i hi) HB.out.size))
    replace HB := Lib.hid (Bt HB.out hk)
    clear hk
    go_wp2_with fail
    obtain ⟨wx, hwx⟩ : ∃ u, u = w2 := ⟨_, rfl⟩
    rw [← hwx] at HR HB ⊢
    clear hwx
    refine (command_any T A c ys wx HR.out (fun i hi => Nat.lt_of_lt_of_le (HT.out i hi) HB.out.size) HY.out HL.out).mono ?_
    rintro e wa ⟨Q, rfl, hqk, hk, hcase⟩
    replace HR := Lib.hid (HR.out.below hk (fun i hi => Nat.lt_of_lt_of_le (HT.out i hi) HB.out.size))
    replace HB := Lib.hid (Bt HB.out hk)
    have HQK := Lib.hid hqk
    clear hk hqk
    obtain ⟨E, hE⟩ : ∃ E, E = (vZ ys).e := ⟨_, rfl⟩
    rw [← hE]
    rcases hcase with ⟨h0, hq⟩ | ⟨h0, hq⟩
    · rw [← hE] at h0
      subst h0
      obtain ⟨i1, i2⟩ := cmd_inv HY.out hE.symm
      rw [← hq] at i1 i2
      have HC2 := Lib.hid i1
      have HPK := Lib.hid (show cpackP Q = ys by rw [cpackP_app (cmay_of i1)]; exact i2.symm)
      clear hE hq i1 i2
      go_wp2_with (first | (refine step_store36 rfl (.tmp 9) (.tmp 42) rfl wa.heap.size rfl Q HQK.out rfl _ (Blk.new wa 36 _) rfl ?_; intro wq hbq hmq hsq; have HMQ := Lib.hid hmq; have HBQ := Lib.hid hbq; clear hbq hmq hsq) | (refine step_load36 rfl (.tmp 9) rfl wa.heap.size rfl Q HQK.out (blk_range HBQ.out) ?_) | fail)
      have hk : Below wa.heap.size wa wq := Bm (Ba (B0 wa) _) HMQ.out (fun i hi => by omega)
      replace HR := Lib.hid (HR.out.below hk (fun i hi => Nat.lt_of_lt_of_le (HT.out i hi) HB.out.size))
      replace HB := Lib.hid (Bt HB.out hk)
      clear hk HMQ HBQ
      refine (cmd_ok Q wq HQK.out HC2.out).mono ?_
      rw [HPK.out]
      rintro e w5 ⟨A5, c5, rfl, hf⟩
      have hk := hf.kept
      replace HR := Lib.hid (HR.out.below hk (fun i hi => Nat.lt_of_lt_of_le (HT.out i hi) HB.out.size))
      replace HB := Lib.hid (Bt HB.out hk)
      have HF5 := Lib.hid hf.rd
      clear hf hk
      go_wp2_with fail
      refine (eq_bytes _ _ _ _ ys ys w5 HF5.out HR.out).mono ?_
      rintro e w6 ⟨rfl, nd, hw6⟩
      rw [show eqB ys ys = true by simp [eqB]]
      have hk : Below w5.heap.size w5 w6 := by rw [hw6]; exact BdN (B0 w5) nd
      replace HB := Lib.hid (Bt HB.out hk)
      clear hk hw6
      go_wp2_with fail
      refine (awake_any w6).mono ?_
      rintro e w7 ⟨rfl, hk⟩
      replace HB := Lib.hid (Bt HB.out hk)
      clear hk
      go_wp2_with fail
      go_ret
      exact ⟨rfl, HB.out⟩
    · rw [← hE] at h0
      have h34 : E = 3 ∨ E = 4 := by
        have := cun_e HY.out
        unfold E34 at this
        rw [← hE] at this
        omega
      clear hE
      rw [hq]
      have HQZ := Lib.hid (show zCo.o.ks.length = 32 from z32_len)
      clear hq HQK
      rcases h34 with rfl | rfl
      · go_wp2_with (first | (refine step_store36 rfl (.tmp 9) (.tmp 42) rfl wa.heap.size rfl zCo HQZ.out rfl _ (Blk.new wa 36 _) rfl ?_; intro wq hbq hmq hsq; have HMQ := Lib.hid hmq; have HBQ := Lib.hid hbq; clear hbq hmq hsq) | (refine step_load36 rfl (.tmp 9) rfl wa.heap.size rfl zCo HQZ.out (blk_range HBQ.out) ?_) | (refine step_cmp36 rfl .eql (.inl rfl) (.tmp 46) (.tmp 47) rfl zCo zCo rfl rfl HQZ.out HQZ.out true (by rw [if_pos rfl, coB_refl]) ?_) | fail)
        have hk : Below wa.heap.size wa wq := Bm (Ba (B0 wa) _) HMQ.out (fun i hi => by omega)
        replace HB := Lib.hid (Bt HB.out hk)
        clear hk HMQ HBQ
        refine (awake_any wq).mono ?_
        rintro e w7 ⟨rfl, hk⟩
        replace HB := Lib.hid (Bt HB.out hk)
        clear hk
        go_wp2_with fail
        go_ret
        exact ⟨rfl, HB.out⟩
      · go_wp2_with (first | (refine step_store36 rfl (.tmp 9) (.tmp 42) rfl wa.heap.size rfl zCo HQZ.out rfl _ (Blk.new wa 36 _) rfl ?_; intro wq hbq hmq hsq; have HMQ := Lib.hid hmq; have HBQ := Lib.hid hbq; clear hbq hmq hsq) | (refine step_load36 rfl (.tmp 9) rfl wa.heap.size rfl zCo HQZ.out (blk_range HBQ.out) ?_) | (refine step_cmp36 rfl .eql (.inl rfl) (.tmp 46) (.tmp 47) rfl zCo zCo rfl rfl HQZ.out HQZ.out true (by rw [if_pos rfl, coB_refl]) ?_) | fail)
        have hk : Below wa.heap.size wa wq := Bm (Ba (B0 wa) _) HMQ.out (fun i hi => by omega)
        replace HB := Lib.hid (Bt HB.out hk)
        clear hk HMQ HBQ
        refine (awake_any wq).mono ?_
        rintro e w7 ⟨rfl, hk⟩
        replace HB := Lib.hid (Bt HB.out hk)
        clear hk
        go_wp2_with fail
        go_ret
        exact ⟨rfl, HB.out⟩
  · have HC := Lib.hid hc
    have hun := cback_un hc h32 hbk
    have HV := Lib.hid hun
    have HZB := Lib.hid (cpackP_byt hc hbk)
    have HN := Lib.hid (cpackP_len (cmay_of hc) h32)
    obtain ⟨zs, hzs⟩ : ∃ zs, zs = cpackP co := ⟨_, rfl⟩
    rw [← hzs] at HV HZB HN
    have HZS := Lib.hid hzs
    clear hc hbk h32 hun hzs
    go_enter Try.func13, Try.ntmps13
    go_wp2_with (first | (refine step_load36 rfl (.tmp 2) rfl W.heap.size rfl co HK32.out (blk_range HG0.out) ?_) | fail)
    obtain ⟨wg, hwg⟩ : ∃ u, u = W.alloc (.cells co.L.toArray 36) := ⟨_, rfl⟩
    have hk : Below W.heap.size W wg := by rw [hwg]; exact Ba (B0 W) _
    replace HR := Lib.hid (HR.out.below hk HT.out)
    have HB := Lib.hid hk
    rw [← hwg] at HG0 ⊢
    clear hwg hk
    refine (cmd_ok co wg HK32.out HC.out).mono ?_
    rw [← HZS.out]
    rintro e w2 ⟨A2, c2, rfl, hf⟩
    replace HG0 := Lib.hid (HG0.out.later hf.kept)
    replace HR := Lib.hid (HR.out.below hf.kept (fun i hi => Nat.lt_of_lt_of_le (HT.out i hi) HB.out.size))
    replace HB := Lib.hid (Bt HB.out hf.kept)
    have HF := Lib.hid hf.rd
    clear hf
    go_wp2_with fail
    have hun := command_any _ A2 c2 zs w2 HF.out (fun _ h => h) HZB.out (by have := HN.out; omega)
    refine hun.mono ?_
    rintro e w3 ⟨Q, rfl, hqk, hk, hcase⟩
    rw [HV.out.1]
    have hq : Q = co := hcase.elim (fun h => h.2.trans HV.out.2) (fun h => absurd HV.out.1 h.1)
    rw [hq]
    replace HG0 := Lib.hid (HG0.out.later hk)
    replace HR := Lib.hid (HR.out.below hk (fun i hi => Nat.lt_of_lt_of_le (HT.out i hi) HB.out.size))
    have HSZ := Lib.hid (show W.heap.size < w3.heap.size from HG0.out.lt)
    replace HB := Lib.hid (Bt HB.out hk)
    clear hcase hun hq hqk hk HF HV HZB HN HZS
    go_wp2_with (first | (refine step_store36 rfl (.tmp 7) (.tmp 23) rfl w3.heap.size rfl co HK32.out rfl _ (Blk.new w3 36 _) rfl ?_; intro wx hbx hmx hsx; have HMX := Lib.hid hmx; have HG1 := Lib.hid hbx; have HG2 := Lib.hid ((HG0.out.alloc _).kept hmx (by have := HSZ.out; omega)); clear hbx hmx hsx) | (refine step_load36 rfl (.tmp 7) rfl w3.heap.size rfl co HK32.out (blk_range HG1.out) ?_) | (refine step_load36 rfl (.tmp 2) rfl W.heap.size rfl co HK32.out (blk_range HG2.out) ?_) | (refine step_cmp36 rfl .neq (.inr rfl) (.tmp 28) (.tmp 29) rfl co co rfl rfl HK32.out HK32.out false (by rw [if_neg (by decide), coB_refl]; rfl) ?_) | fail)
    have hk : Below w3.heap.size w3 wx := Bm (Ba (B0 w3) _) HMX.out (fun i hi => by omega)
    replace HR := Lib.hid (HR.out.below hk (fun i hi => Nat.lt_of_lt_of_le (HT.out i hi) HB.out.size))
    replace HB := Lib.hid (Bt HB.out hk)
    clear hk HMX HG1 HG2 HG0 HSZ HC
    refine (command_any T A c ys wx HR.out (fun i hi => Nat.lt_of_lt_of_le (HT.out i hi) HB.out.size) HY.out HL.out).mono ?_
    rintro e wa ⟨Q, rfl, hqk, hk, hcase⟩
    replace HR := Lib.hid (HR.out.below hk (fun i hi => Nat.lt_of_lt_of_le (HT.out i hi) HB.out.size))
    replace HB := Lib.hid (Bt HB.out hk)
    have HQK := Lib.hid hqk
    clear hk hqk
    obtain ⟨E, hE⟩ : ∃ E, E = (vZ ys).e := ⟨_, rfl⟩
    rw [← hE]
    rcases hcase with ⟨h0, hq⟩ | ⟨h0, hq⟩
    · rw [← hE] at h0
      subst h0
      obtain ⟨i1, i2⟩ := cmd_inv HY.out hE.symm
      rw [← hq] at i1 i2
      have HC2 := Lib.hid i1
      have HPK := Lib.hid (show cpackP Q = ys by rw [cpackP_app (cmay_of i1)]; exact i2.symm)
      clear hE hq i1 i2
      go_wp2_with (first | (refine step_store36 rfl (.tmp 9) (.tmp 42) rfl wa.heap.size rfl Q HQK.out rfl _ (Blk.new wa 36 _) rfl ?_; intro wq hbq hmq hsq; have HMQ := Lib.hid hmq; have HBQ := Lib.hid hbq; clear hbq hmq hsq) | (refine step_load36 rfl (.tmp 9) rfl wa.heap.size rfl Q HQK.out (blk_range HBQ.out) ?_) | fail)
      have hk : Below wa.heap.size wa wq := Bm (Ba (B0 wa) _) HMQ.out (fun i hi => by omega)
      replace HR := Lib.hid (HR.out.below hk (fun i hi => Nat.lt_of_lt_of_le (HT.out i hi) HB.out.size))
      replace HB := Lib.hid (Bt HB.out hk)
      clear hk HMQ HBQ
      refine (cmd_ok Q wq HQK.out HC2.out).mono ?_
      rw [HPK.out]
      rintro e w5 ⟨A5, c5, rfl, hf⟩
      have hk := hf.kept
      replace HR := Lib.hid (HR.out.below hk (fun i hi => Nat.lt_of_lt_of_le (HT.out i hi) HB.out.size))
      replace HB := Lib.hid (Bt HB.out hk)
      have HF5 := Lib.hid hf.rd
      clear hf hk
      go_wp2_with fail
      refine (eq_bytes _ _ _ _ ys ys w5 HF5.out HR.out).mono ?_
      rintro e w6 ⟨rfl, nd, hw6⟩
      rw [show eqB ys ys = true by simp [eqB]]
      have hk : Below w5.heap.size w5 w6 := by rw [hw6]; exact BdN (B0 w5) nd
      replace HB := Lib.hid (Bt HB.out hk)
      clear hk hw6
      go_wp2_with fail
      refine (awake_any w6).mono ?_
      rintro e w7 ⟨rfl, hk⟩
      replace HB := Lib.hid (Bt HB.out hk)
      clear hk
      go_wp2_with fail
      go_ret
      exact ⟨rfl, HB.out⟩
    · rw [← hE] at h0
      have h34 : E = 3 ∨ E = 4 := by
        have := cun_e HY.out
        unfold E34 at this
        rw [← hE] at this
        omega
      clear hE
      rw [hq]
      have HQZ := Lib.hid (show zCo.o.ks.length = 32 from z32_len)
      clear hq HQK
      rcases h34 with rfl | rfl
      · go_wp2_with (first | (refine step_store36 rfl (.tmp 9) (.tmp 42) rfl wa.heap.size rfl zCo HQZ.out rfl _ (Blk.new wa 36 _) rfl ?_; intro wq hbq hmq hsq; have HMQ := Lib.hid hmq; have HBQ := Lib.hid hbq; clear hbq hmq hsq) | (refine step_load36 rfl (.tmp 9) rfl wa.heap.size rfl zCo HQZ.out (blk_range HBQ.out) ?_) | (refine step_cmp36 rfl .eql (.inl rfl) (.tmp 46) (.tmp 47) rfl zCo zCo rfl rfl HQZ.out HQZ.out true (by rw [if_pos rfl, coB_refl]) ?_) | fail)
        have hk : Below wa.heap.size wa wq := Bm (Ba (B0 wa) _) HMQ.out (fun i hi => by omega)
        replace HB := Lib.hid (Bt HB.out hk)
        clear hk HMQ HBQ
        refine (awake_any wq).mono ?_
        rintro e w7 ⟨rfl, hk⟩
        replace HB := Lib.hid (Bt HB.out hk)
        clear hk
        go_wp2_with fail
        go_ret
        exact ⟨rfl, HB.out⟩
      · go_wp2_with (first | (refine step_store36 rfl (.tmp 9) (.tmp 42) rfl wa.heap.size rfl zCo HQZ.out rfl _ (Blk.new wa 36 _) rfl ?_; intro wq hbq hmq hsq; have HMQ := Lib.hid hmq; have HBQ := Lib.hid hbq; clear hbq hmq hsq) | (refine step_load36 rfl (.tmp 9) rfl wa.heap.size rfl zCo HQZ.out (blk_range HBQ.out) ?_) | (refine step_cmp36 rfl .eql (.inl rfl) (.tmp 46) (.tmp 47) rfl zCo zCo rfl rfl HQZ.out HQZ.out true (by rw [if_pos rfl, coB_refl]) ?_) | fail)
        have hk : Below wa.heap.size wa wq := Bm (Ba (B0 wa) _) HMQ.out (fun i hi => by omega)
        replace HB := Lib.hid (Bt HB.out hk)
        clear hk HMQ HBQ
        refine (awake_any wq).mono ?_
        rintro e w7 ⟨rfl, hk⟩
        replace HB := Lib.hid (Bt HB.out hk)
        clear hk
        go_wp2_with fail
        go_ret
        exact ⟨rfl, HB.out⟩
theorem postThere_walk {H : Type} {enc : TypeId × Value → H} (W : World) {base : Nat} {sp : Nat → Bool} {held : Bool} {v v1 : Value} {d d1 : DataW H} {pl pl1 : List MemPlace} (hv : Value.okWide Try.prog W .any base 36 v) (ht : DataW.Trod enc Try.prog W 0 sp held 36 v d pl)
    (hz : ∀ n ∈ d.weights Try.prog 36, n ≤ reachBytes) (hv1 : Value.okWide Try.prog W .any base 23 v1) (ht1 : DataW.Trod enc Try.prog W 0 sp held 23 v1 d1 pl1)
    (hz1 : ∀ n ∈ d1.weights Try.prog 23, n ≤ reachBytes) :
    Calls Try.prog 13 #[v, v1] W fun e w' => e = .returned (.bool true) ∧ Below W.heap.size W w' := by
  obtain ⟨co, rfl, hk, hb⟩ := open_cmd hv ht
  obtain ⟨A, c, xs, rfl, hxb, hl, hr⟩ := open_bytes hv1 ht1 hz1
  exact postThere_at W co hk hb _ A c xs hr (fun i hi => hi) hxb hl
end
end Go.Proofs.Ytnphnaggamfoiaa
