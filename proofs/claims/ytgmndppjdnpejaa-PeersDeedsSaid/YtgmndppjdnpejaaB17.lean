/- The chapter's table works. -/
import Derived.Test.YtgmndppjdnpejaaB16
namespace Go.Proofs.Ytgmndppjdnpejaa
open Go.RowKit
set_option maxRecDepth 20000
set_option linter.unusedVariables false
set_option linter.unusedSimpArgs false

theorem chap_may (gs gp : Nat) (v : Int) : mayB (chap v gs gp).hd (chap v gs gp).ps = true := by rfl
theorem chap_ok (gs gp : Nat) {v : Int} (h0 : 0 ≤ v) (h1 : v ≤ 9007199254740991) : nmB (chap v gs gp) = true := by
  unfold nmB
  rw [chap_may, show nuB (chap v gs gp).ver = true by show nuB v = true; unfold nuB; rw [decide_eq_true h0, decide_eq_true h1]; rfl]
  rfl
/-- The one peer of the chapter. -/
structure Two (q : Pe) : Prop where
  nd : q.nd = 2
  ks : q.ks = k2
  ex : q.ex = 60
  ins : q.ins = []
  outs : q.outs = [⟨80, 90⟩]
theorem two_of {q : Pe} {gs : Nat} (h : q.px = (p2 gs).px) : Two q := ⟨congrArg Px.nd h, congrArg Px.ks h, congrArg Px.ex h, congrArg Px.ins h, congrArg Px.outs h⟩
theorem pkN_one {q : Pe} (h : Two q) (tick n : Int) : pkN tick [q] n = if n = 2 ∧ tick < 60 then some q else none := by
  unfold pkN lkN
  rw [List.reverse_singleton, List.find?_cons, List.find?_nil, h.nd]
  by_cases hn : n = 2
  · subst hn
    rw [show ((2 : Int) == 2) = true from rfl]
    simp only [Option.filter_some, h.ex]
    by_cases ht : tick < 60
    · simp [ht]
    · simp [ht]
  · rw [show ((2 : Int) == n) = false by simp; omega]
    rw [if_neg (by omega)]
    rfl
theorem list_one {q : Pe} (h : Two q) {tick : Int} (ht : tick < 60) : listN tick [q] 8 = [2] := by
  simp [listN, pkN_one h, ht]
theorem list_none {q : Pe} (h : Two q) {tick : Int} (ht : ¬ tick < 60) : listN tick [q] 8 = [] := by
  simp [listN, pkN_one h, ht]
theorem node_one {q : Pe} (h : Two q) : nodeK [q] k2 = 2 := by
  unfold nodeK lkK
  rw [List.reverse_singleton, List.find?_cons, List.find?_nil, h.ks]
  simp [h.nd]
set_option maxHeartbeats 1000000 in
theorem has_true (S : Nat → Prop) (g : Nat) (node tick ver : Int) (q : Pe) (W : World) (h : TbAt W S g node tick ver [q]) (hn : 1 ≤ node) (h2 : Two q) (ht : tick < 60) :
    Calls Try.prog 31 #[.pointer (some ⟨g, 0, none⟩)] W fun e w' => e = .returned (.bool true) ∧ Below W.heap.size W w' := by
  obtain ⟨K2, hK2⟩ : ∃ K, K = bts k2 := ⟨_, rfl⟩
  have HBK2 := Lib.hid (show ∀ w, (Instr.build 31 ([(0, .int .u8 2)] : List (Nat × Value)).toArray).run Try.prog w = .ok (.agg K2.toArray) w by rw [hK2]; exact build_k2)
  have HQ2 := Lib.hid (show pkN tick [q] 2 = some q by rw [pkN_one h2, if_pos ⟨rfl, ht⟩])
  have HN2 := Lib.hid (node_one h2)
  have HL := Lib.hid (list_one h2 ht)
  have H2 := Lib.hid h2
  have HT := Lib.hid h
  have HK2 := Lib.hid hK2
  have HLK := Lib.hid (show K2.length = 32 by rw [hK2, bts_length]; exact k2_len)
  have HKO := Lib.hid (show ∀ u ∈ K2, u.oneCell' = true by rw [hK2]; exact bts_one' _)
  have HGT := Lib.hid (show ∀ v, v = W → True from fun _ _ => trivial)
  clear h h2 hK2 ht
  go_enter Try.func31, Try.ntmps31
  go_wp2_with (first | (refine step_build (t := 31) rfl _ rfl [(0, .int .u8 2)] rfl K2.toArray (HBK2.out _) ?_) | fail)
  rw [HK2.out]
  refine (key_any S g node tick ver [q] k2 W HT.out hn (by intro p hp; rw [List.mem_singleton] at hp; rw [hp, H2.out.nd]; omega) k2_len k2_byt).mono ?_
  rw [HN2.out, HQ2.out, ← HK2.out]
  rintro e w1 ⟨rfl, hb1⟩
  rw [show ((some q).getD zPe).nd = 2 from H2.out.nd]
  have HB := Lib.hid hb1
  replace HT := Lib.hid (HT.out.below hb1)
  clear hb1
  go_wp2_with fail
  refine (by_any S g node tick ver [q] 2 w1 HT.out hn (by omega) (by omega)).mono ?_
  rw [HQ2.out]
  rintro e w2 ⟨rfl, hb2⟩
  rw [show bts ((some q).getD zPe).ks = K2 by rw [HK2.out]; exact congrArg bts H2.out.ks]
  replace HT := Lib.hid (HT.out.below hb2)
  replace HB := Lib.hid (Bt HB.out hb2)
  clear hb2
  go_wp2_with (first | (refine step_store big_key rfl (.tmp 5) (.tmp 16) rfl w2.heap.size rfl K2 HLK.out HKO.out rfl 31 _ (Blk.new w2 31 (bts z32).toArray) (by simp [bts, z32]) ?_; intro w3 hb3 hm3 hs3; have HP := Lib.hid hb3; have HM3 := Lib.hid hm3; clear hb3 hm3 hs3) | (refine step_load big_key (by first | rfl | simp [Region.wanted, yielded]) (.tmp 5) rfl w2.heap.size 0 rfl K2 HLK.out (blk_range HP.out) ?_) | (refine step_build (t := 31) (by first | rfl | simp [Region.wanted, yielded]) _ rfl [(0, .int .u8 2)] rfl K2.toArray (HBK2.out _) ?_) | (refine step_eqK (by first | rfl | simp [Region.wanted, yielded]) .eql (.inl rfl) (.tmp 27) (.tmp 28) rfl k2 k2 (by rw [← HK2.out]; rfl) (by rw [← HK2.out]; rfl) k2_len k2_len true (by rw [if_pos rfl]; simp) ?_) | fail)
  have hb3 : Below w2.heap.size w2 w3 := Bm (Ba (B0 w2) _) HM3.out (fun i hi => by omega)
  replace HT := Lib.hid (HT.out.below hb3)
  replace HB := Lib.hid (Bt HB.out hb3)
  clear hb3
  refine (list_any S g node tick ver [q] w3 HT.out hn).mono ?_
  rw [HL.out]
  rintro e w4 ⟨A4, c4, rfl, ho4, hb4⟩
  have HO := Lib.hid (show w4.ownsRow w3.heap.size 3 1 (.slice A4 1 c4) 1 (ints [2]) from ho4)
  replace HB := Lib.hid (Bt HB.out hb4)
  clear hb4 ho4
  go_wp2_with fail
  refine (ints_same _ _ A4 (some ⟨w4.heap.size, 0, none⟩) c4 1 [2] _ (Rd.of_own (HO.out.alloc _)) (Rd.box w4 3 [.int .i64 2] 1 rfl)).mono ?_
  rintro e w5 ⟨rfl, n5, rfl⟩
  go_wp2_with fail
  go_ret
  exact ⟨rfl, BdN (Ba HB.out _) _⟩

set_option maxHeartbeats 2000000 in
theorem works_any (W : World) : Calls Try.prog 19 #[] W fun e w' => e = .returned (.bool true) ∧ Below W.heap.size W w' := by
  obtain ⟨K2, hK2⟩ : ∃ K, K = bts k2 := ⟨_, rfl⟩
  have HBK2 := Lib.hid (show ∀ w, (Instr.build 31 ([(0, .int .u8 2)] : List (Nat × Value)).toArray).run Try.prog w = .ok (.agg K2.toArray) w by rw [hK2]; exact build_k2)
  have HK2 := Lib.hid hK2
  clear hK2
  go_enter Try.func19, Try.ntmps19
  go_wp2_with fail
  refine (new_ok 1 W rfl).mono ?_
  rintro e w1 ⟨g, rfl, ht, hgW, hb1⟩
  have HG := Lib.hid hgW
  have HT := Lib.hid ht
  have HB := Lib.hid hb1
  clear ht hb1 hgW
  go_wp2_with fail
  refine (chapter_any 3 w1).mono ?_
  rintro e w2 ⟨gs, gp, rfl, hnm, hb2⟩
  have HSE := Lib.hid (show ∀ i, (w1.heap.size ≤ i ∧ i < w2.heap.size) → i < w2.heap.size ∧ i ≠ g from fun i hi => ⟨hi.2, by have := HT.out.2.1 g rfl; omega⟩)
  have HNM := Lib.hid hnm
  replace HT := Lib.hid (HT.out.below hb2)
  replace HB := Lib.hid (Bt HB.out hb2)
  obtain ⟨M, hM⟩ : ∃ M, M = chap 3 gs gp := ⟨_, rfl⟩
  rw [← hM] at HNM ⊢
  have HMO := Lib.hid (show nmB M = true by rw [hM]; exact chap_ok gs gp (by omega) (by omega))
  have HMN := Lib.hid (show M.node = 1 by rw [hM]; rfl)
  have HMV := Lib.hid (show M.ver = 3 by rw [hM]; rfl)
  have HMP := Lib.hid (show M.ps = [p2 gs] by rw [hM]; rfl)
  clear hnm hb2 hM
  go_wp2_with fail
  refine (set_ok _ _ M g 1 0 0 [] w2 HNM.out HSE.out HT.out (by omega) HMO.out HMN.out (by rw [HMV.out]; omega)).mono ?_
  rintro e w3 ⟨qs, rfl, ht, hpx, hm3⟩
  rw [HMV.out] at ht
  rw [HMP.out] at hpx
  obtain ⟨q, hq, h2⟩ : ∃ q, qs = [q] ∧ Two q := by
    match qs, hpx with
    | [], h => simp at h
    | [q], h => exact ⟨q, rfl, two_of (by simpa using h)⟩
    | _ :: _ :: _, h => simp at h
  subst hq
  replace HT := Lib.hid ht
  have H2 := Lib.hid h2
  replace HB := Lib.hid (Bm HB.out hm3 (fun i hi => by subst hi; exact HG.out))
  have HPK := Lib.hid (fun tick n => pkN_one h2 tick n)
  have HN2 := Lib.hid (node_one h2)
  clear ht hpx hm3 h2 HNM HMO HMN HMV HMP
  go_wp2_with fail
  refine (has_true _ g 1 0 3 q w3 HT.out (by omega) H2.out (by omega)).mono ?_
  rintro e w4 ⟨rfl, hb⟩
  replace HT := Lib.hid (HT.out.below hb)
  replace HB := Lib.hid (Bt HB.out hb)
  clear hb
  go_wp2_with fail
  refine (out_any _ g 1 0 3 [q] 2 80 w4 HT.out (by omega) (by omega) (by omega)).mono ?_
  rw [HPK.out, if_pos (by omega), show wiB ((some q).getD zPe).outs 80 = true by rw [show ((some q).getD zPe).outs = [⟨80, 90⟩] from H2.out.outs]; rfl]
  rintro e w5 ⟨rfl, hb⟩
  replace HT := Lib.hid (HT.out.below hb)
  replace HB := Lib.hid (Bt HB.out hb)
  clear hb
  go_wp2_with fail
  refine (in_any _ g 1 0 3 [q] 2 80 w5 HT.out (by omega) (by omega) (by omega)).mono ?_
  rw [HPK.out, if_pos (by omega), show wiB ((some q).getD zPe).ins 80 = false by rw [show ((some q).getD zPe).ins = [] from H2.out.ins]; rfl]
  rintro e w6 ⟨rfl, hb⟩
  replace HT := Lib.hid (HT.out.below hb)
  replace HB := Lib.hid (Bt HB.out hb)
  clear hb
  go_wp2_with fail
  refine (out_any _ g 1 0 3 [q] 2 91 w6 HT.out (by omega) (by omega) (by omega)).mono ?_
  rw [HPK.out, if_pos (by omega), show wiB ((some q).getD zPe).outs 91 = false by rw [show ((some q).getD zPe).outs = [⟨80, 90⟩] from H2.out.outs]; rfl]
  rintro e w7 ⟨rfl, hb⟩
  replace HT := Lib.hid (HT.out.below hb)
  replace HB := Lib.hid (Bt HB.out hb)
  clear hb
  go_wp2_with fail
  refine (version_any _ g 1 0 3 [q] w7 HT.out (by omega)).mono ?_
  rintro e w8 ⟨rfl, rfl⟩
  go_wp2_with fail
  refine (now_any _ g 1 0 3 59 [q] w7 HT.out (by omega)).mono ?_
  rintro e w8 ⟨rfl, ht, hm⟩
  rw [show nowE 0 59 = 0 from rfl]
  replace HT := Lib.hid (show TbAt w8 _ g 1 59 3 [q] from ht)
  replace HB := Lib.hid (Bm HB.out hm (fun i hi => by subst hi; exact HG.out))
  clear ht hm
  go_wp2_with fail
  refine (has_true _ g 1 59 3 q w8 HT.out (by omega) H2.out (by omega)).mono ?_
  rintro e w9 ⟨rfl, hb⟩
  replace HT := Lib.hid (HT.out.below hb)
  replace HB := Lib.hid (Bt HB.out hb)
  clear hb
  go_wp2_with fail
  refine (now_any _ g 1 59 3 60 [q] w9 HT.out (by omega)).mono ?_
  rintro e w10 ⟨rfl, ht, hm⟩
  rw [show nowE 59 60 = 0 from rfl]
  replace HT := Lib.hid (show TbAt w10 _ g 1 60 3 [q] from ht)
  replace HB := Lib.hid (Bm HB.out hm (fun i hi => by subst hi; exact HG.out))
  clear ht hm
  go_wp2_with (first | (refine step_build (t := 31) rfl _ rfl [(0, .int .u8 2)] rfl K2.toArray (HBK2.out _) ?_) | fail)
  rw [HK2.out]
  refine (key_any _ g 1 60 3 [q] k2 w10 HT.out (by omega) (by intro p hp; rw [List.mem_singleton] at hp; rw [hp, H2.out.nd]; omega) k2_len k2_byt).mono ?_
  rw [HN2.out, HPK.out, if_neg (by omega), ← HK2.out]
  rintro e w11 ⟨rfl, hb⟩
  replace HT := Lib.hid (HT.out.below hb)
  replace HB := Lib.hid (Bt HB.out hb)
  clear hb
  go_wp2_with fail
  refine (list_any _ g 1 60 3 [q] w11 HT.out (by omega)).mono ?_
  rw [list_none H2.out (by omega)]
  rintro e w12 ⟨A, c, rfl, _, hb⟩
  replace HT := Lib.hid (HT.out.below hb)
  replace HB := Lib.hid (Bt HB.out hb)
  clear hb
  go_wp2_with fail
  refine (now_any _ g 1 60 3 59 [q] w12 HT.out (by omega)).mono ?_
  rintro e w13 ⟨rfl, ht, hm⟩
  rw [show nowE 60 59 = 201 from rfl]
  replace HT := Lib.hid (show TbAt w13 _ g 1 60 3 [q] from ht)
  replace HB := Lib.hid (Bm HB.out hm (fun i hi => by subst hi; exact HG.out))
  clear ht hm
  go_wp2_with fail
  refine (chapter_any 2 w13).mono ?_
  rintro e w14 ⟨gs', gp', rfl, hnm, hb2⟩
  have HNM := Lib.hid hnm
  replace HT := Lib.hid (HT.out.below hb2)
  replace HB := Lib.hid (Bt HB.out hb2)
  obtain ⟨M', hM⟩ : ∃ M, M = chap 2 gs' gp' := ⟨_, rfl⟩
  rw [← hM] at HNM ⊢
  have HE := Lib.hid (show setE M' 1 3 = 201 by
    unfold setE
    rw [hM, if_neg (by rw [chap_ok gs' gp' (by omega) (by omega)]; simp), if_neg (by simp [chap]), if_pos (by simp [chap])])
  clear hnm hb2 hM
  go_wp2_with fail
  refine (set_no _ _ M' g 1 60 3 [q] w14 HNM.out (fun i hi => hi.2) HT.out (by omega) (by rw [HE.out]; omega)).mono ?_
  rw [HE.out]
  rintro e w15 ⟨rfl, hb⟩
  replace HT := Lib.hid (HT.out.below hb)
  replace HB := Lib.hid (Bt HB.out hb)
  clear hb
  go_wp2_with fail
  go_ret
  exact ⟨rfl, HB.out⟩
end Go.Proofs.Ytgmndppjdnpejaa
