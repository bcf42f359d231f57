/- Walks: the document's Check; the statement PostChecks. -/
import Derived.Test.YtnphnaggamfoiaaC9
namespace Go.Proofs.Ytnphnaggamfoiaa
open Go.RowKit Go.WideShapes Go.ChangeShapes
set_option maxRecDepth 20000
set_option linter.unusedVariables false
set_option linter.unusedSimpArgs false

theorem sm_al (p : Po) (l : List Ed) (d : List Int) (h : wiB p.kd 1 6 = true) (hl : l.length = p.en) (hd : d.length = p.sn) : smB p.bare p (bareL p l) l (bareD p d) d = alB p p.bare := by
  have h' : 1 ≤ p.kd ∧ p.kd ≤ 6 := by simpa [wiB] using h
  have e0 : (l = [] ↔ p.en = 0) := by rw [← hl, List.length_eq_zero_iff]
  have d0 : (d = [] ↔ p.sn = 0) := by rw [← hd, List.length_eq_zero_iff]
  have e1 : ([] = l ↔ p.en = 0) := by rw [← e0]; exact eq_comm
  have d1 : ([] = d ↔ p.sn = 0) := by rw [← d0]; exact eq_comm
  have : p.kd = 1 ∨ p.kd = 2 ∨ p.kd = 3 ∨ p.kd = 4 ∨ p.kd = 5 ∨ p.kd = 6 := by omega
  rw [Bool.eq_iff_iff]
  rcases this with e | e | e | e | e | e
  all_goals
    simp [smB, alB, Po.bare, e, snB, eqEs_eq, eqB, bareL, bareD, e0, d0, e1, d1]
    try grind
theorem no_lt {p : Po} (h : nuB p.lt = false) (h0 : nuB p.te = true) : numB p = false := by
  cases hz : wiB p.lt 0 p.te
  · simp [numB, hz]
  · exfalso
    have a1 : 0 ≤ p.te ∧ p.te ≤ 9007199254740991 := by simpa [nuB, wiB] using h0
    have a2 : 0 ≤ p.lt ∧ p.lt ≤ p.te := by simpa [wiB] using hz
    have a3 : nuB p.lt = true := by simp [nuB, wiB]; omega
    rw [a3] at h
    cases h
theorem chkE_no {p : Po} {l : List Ed} (h : chkB p l = false) : chkE p l = 2 := by simp [chkE, h]
theorem chkE_yes {p : Po} {l : List Ed} (h : chkB p l = true) : chkE p l = 0 := by simp [chkE, h]
theorem no_kd {p : Po} {l : List Ed} (h : wiB p.kd 1 6 = false) : chkE p l = 2 := chkE_no (by simp [chkB, h])
theorem no_srv {p : Po} {l : List Ed} (h : srvB p = false) : chkE p l = 2 := chkE_no (by simp [chkB, h])
theorem no_num {p : Po} {l : List Ed} (h : numB p = false) : chkE p l = 2 := chkE_no (by simp [chkB, h])

set_option maxHeartbeats 16000000 in
theorem refcheck_any (S : Nat → Prop) (p : Po) (l : List En) (d : List Int) (w : World) (hp : PoAt w S p l d) :
    Calls Try.prog 15 #[p.v] w fun e w' => e = .returned (.int .i64 (chkE p (l.map En.ed))) ∧ Below w.heap.size w w' := by
  obtain ⟨q, hq⟩ : ∃ q, q = p.bare := ⟨_, rfl⟩
  have hpq := hp.bare
  rw [← hq] at hpq
  have hsa := fun h => sm_al p (l.map En.ed) d h (by simpa using hp.len) hp.dlen
  rw [← hq] at hsa
  obtain ⟨lq, hlq⟩ : ∃ x, x = bareL p l := ⟨_, rfl⟩
  obtain ⟨dq, hdq⟩ : ∃ x, x = bareD p d := ⟨_, rfl⟩
  rw [← hlq, ← hdq] at hpq
  have hbl : lq.map En.ed = bareL p (l.map En.ed) := by rw [hlq]; unfold bareL; split <;> rfl
  rw [← hbl, ← hdq] at hsa
  have HC : Hid (∀ z, alB p q = z → chkE p (l.map En.ed) = if (wiB p.kd 1 6 && srvB p && numB p && z && (entsB p.te (p.ix + 1) p.lt (l.map En.ed) && decide (((l.map En.ed).length : Int) ≤ 8)) && (!(p.kd == 5) || snpB p)) = true then 0 else 2) := Lib.hid (fun z hz => by rw [chkE, chkB, ← hq, hz])
  clear hlq hdq hbl
  obtain ⟨kd, fr, tq, te, ix, lt, co, ok, hi, EA, en, ec, si, st, sc, SA, sn, sk⟩ := p
  simp only at hsa HC
  have HP := Lib.hid hp
  have HPQ := Lib.hid hpq
  have HQ := Lib.hid hq
  have HSA := Lib.hid hsa
  have hsn := hp.dmost
  simp only at hsn
  clear hp hpq hq hsa
  by_cases a0 : kd < 1
  · rw [show chkE ⟨kd, fr, tq, te, ix, lt, co, ok, hi, EA, en, ec, si, st, sc, SA, sn, sk⟩ (l.map En.ed) = 2 from no_kd (by simp [wiB]; omega)]
    simp only [Po.v, Po.cs]
    go_enter Try.func15, Try.ntmps15
    go_wp2_with fail
    go_ret
    exact ⟨rfl, Ba (B0 w) _⟩
  · skip
    by_cases a1 : 6 < kd
    · rw [show chkE ⟨kd, fr, tq, te, ix, lt, co, ok, hi, EA, en, ec, si, st, sc, SA, sn, sk⟩ (l.map En.ed) = 2 from no_kd (by simp [wiB]; omega)]
      simp only [Po.v, Po.cs]
      go_enter Try.func15, Try.ntmps15
      go_wp2_with fail
      go_ret
      exact ⟨rfl, Ba (B0 w) _⟩
    · skip
      by_cases a2 : fr < 1
      · rw [show chkE ⟨kd, fr, tq, te, ix, lt, co, ok, hi, EA, en, ec, si, st, sc, SA, sn, sk⟩ (l.map En.ed) = 2 from no_srv (by simp [srvB, wiB]; omega)]
        simp only [Po.v, Po.cs]
        go_enter Try.func15, Try.ntmps15
        go_wp2_with fail
        go_ret
        exact ⟨rfl, Ba (B0 w) _⟩
      · skip
        by_cases a3 : 5 < fr
        · rw [show chkE ⟨kd, fr, tq, te, ix, lt, co, ok, hi, EA, en, ec, si, st, sc, SA, sn, sk⟩ (l.map En.ed) = 2 from no_srv (by simp [srvB, wiB]; omega)]
          simp only [Po.v, Po.cs]
          go_enter Try.func15, Try.ntmps15
          go_wp2_with fail
          go_ret
          exact ⟨rfl, Ba (B0 w) _⟩
        · skip
          by_cases a4 : tq < 1
          · rw [show chkE ⟨kd, fr, tq, te, ix, lt, co, ok, hi, EA, en, ec, si, st, sc, SA, sn, sk⟩ (l.map En.ed) = 2 from no_srv (by simp [srvB, wiB]; omega)]
            simp only [Po.v, Po.cs]
            go_enter Try.func15, Try.ntmps15
            go_wp2_with fail
            go_ret
            exact ⟨rfl, Ba (B0 w) _⟩
          · skip
            by_cases a5 : 5 < tq
            · rw [show chkE ⟨kd, fr, tq, te, ix, lt, co, ok, hi, EA, en, ec, si, st, sc, SA, sn, sk⟩ (l.map En.ed) = 2 from no_srv (by simp [srvB, wiB]; omega)]
              simp only [Po.v, Po.cs]
              go_enter Try.func15, Try.ntmps15
              go_wp2_with fail
              go_ret
              exact ⟨rfl, Ba (B0 w) _⟩
            · skip
              cases a6 : (fr == tq)
              · skip
                have hne : ¬ fr = tq := by simpa using a6
                have hkd : wiB kd 1 6 = true := by simp [wiB]; omega
                have hsv : srvB ⟨kd, fr, tq, te, ix, lt, co, ok, hi, EA, en, ec, si, st, sc, SA, sn, sk⟩ = true := by simp [srvB, wiB, hne]; omega
                have HKD := Lib.hid hkd
                have HSV := Lib.hid hsv
                clear hkd hsv hne
                cases n0 : nuB te
                · have N0 := Lib.hid n0
                  clear n0
                  rw [show chkE ⟨kd, fr, tq, te, ix, lt, co, ok, hi, EA, en, ec, si, st, sc, SA, sn, sk⟩ (l.map En.ed) = 2 from no_num (by simp [numB, N0.out])]
                  simp only [Po.v, Po.cs]
                  go_enter Try.func15, Try.ntmps15
                  go_wp2_with (first | (go_at_call_of 38 te; refine (refnumber_is N0.out _).mono ?_; rintro e w' ⟨rfl, rfl⟩))
                  go_ret
                  exact ⟨rfl, Ba (B0 w) _⟩
                · have N0 := Lib.hid n0
                  clear n0
                  cases n1 : nuB ix
                  · have N1 := Lib.hid n1
                    clear n1
                    rw [show chkE ⟨kd, fr, tq, te, ix, lt, co, ok, hi, EA, en, ec, si, st, sc, SA, sn, sk⟩ (l.map En.ed) = 2 from no_num (by simp [numB, N1.out])]
                    simp only [Po.v, Po.cs]
                    go_enter Try.func15, Try.ntmps15
                    go_wp2_with (first | (go_at_call_of 38 te; refine (refnumber_is N0.out _).mono ?_; rintro e w' ⟨rfl, rfl⟩) | (go_at_call_of 38 ix; refine (refnumber_is N1.out _).mono ?_; rintro e w' ⟨rfl, rfl⟩))
                    go_ret
                    exact ⟨rfl, Ba (B0 w) _⟩
                  · have N1 := Lib.hid n1
                    clear n1
                    cases n2 : nuB lt
                    · have N2 := Lib.hid n2
                      clear n2
                      rw [show chkE ⟨kd, fr, tq, te, ix, lt, co, ok, hi, EA, en, ec, si, st, sc, SA, sn, sk⟩ (l.map En.ed) = 2 from no_num (no_lt N2.out N0.out)]
                      simp only [Po.v, Po.cs]
                      go_enter Try.func15, Try.ntmps15
                      go_wp2_with (first | (go_at_call_of 38 te; refine (refnumber_is N0.out _).mono ?_; rintro e w' ⟨rfl, rfl⟩) | (go_at_call_of 38 ix; refine (refnumber_is N1.out _).mono ?_; rintro e w' ⟨rfl, rfl⟩) | (go_at_call_of 38 lt; refine (refnumber_is N2.out _).mono ?_; rintro e w' ⟨rfl, rfl⟩))
                      go_ret
                      exact ⟨rfl, Ba (B0 w) _⟩
                    · have N2 := Lib.hid n2
                      clear n2
                      cases n3 : nuB co
                      · have N3 := Lib.hid n3
                        clear n3
                        rw [show chkE ⟨kd, fr, tq, te, ix, lt, co, ok, hi, EA, en, ec, si, st, sc, SA, sn, sk⟩ (l.map En.ed) = 2 from no_num (by simp [numB, N3.out])]
                        simp only [Po.v, Po.cs]
                        go_enter Try.func15, Try.ntmps15
                        go_wp2_with (first | (go_at_call_of 38 te; refine (refnumber_is N0.out _).mono ?_; rintro e w' ⟨rfl, rfl⟩) | (go_at_call_of 38 ix; refine (refnumber_is N1.out _).mono ?_; rintro e w' ⟨rfl, rfl⟩) | (go_at_call_of 38 lt; refine (refnumber_is N2.out _).mono ?_; rintro e w' ⟨rfl, rfl⟩) | (go_at_call_of 38 co; refine (refnumber_is N3.out _).mono ?_; rintro e w' ⟨rfl, rfl⟩))
                        go_ret
                        exact ⟨rfl, Ba (B0 w) _⟩
                      · have N3 := Lib.hid n3
                        clear n3
                        cases n4 : nuB hi
                        · have N4 := Lib.hid n4
                          clear n4
                          rw [show chkE ⟨kd, fr, tq, te, ix, lt, co, ok, hi, EA, en, ec, si, st, sc, SA, sn, sk⟩ (l.map En.ed) = 2 from no_num (by simp [numB, N4.out])]
                          simp only [Po.v, Po.cs]
                          go_enter Try.func15, Try.ntmps15
                          go_wp2_with (first | (go_at_call_of 38 te; refine (refnumber_is N0.out _).mono ?_; rintro e w' ⟨rfl, rfl⟩) | (go_at_call_of 38 ix; refine (refnumber_is N1.out _).mono ?_; rintro e w' ⟨rfl, rfl⟩) | (go_at_call_of 38 lt; refine (refnumber_is N2.out _).mono ?_; rintro e w' ⟨rfl, rfl⟩) | (go_at_call_of 38 co; refine (refnumber_is N3.out _).mono ?_; rintro e w' ⟨rfl, rfl⟩) | (go_at_call_of 38 hi; refine (refnumber_is N4.out _).mono ?_; rintro e w' ⟨rfl, rfl⟩))
                          go_ret
                          exact ⟨rfl, Ba (B0 w) _⟩
                        · have N4 := Lib.hid n4
                          clear n4
                          by_cases n5 : te < lt
                          · rw [show chkE ⟨kd, fr, tq, te, ix, lt, co, ok, hi, EA, en, ec, si, st, sc, SA, sn, sk⟩ (l.map En.ed) = 2 from no_num (by simp [numB, wiB]; omega)]
                            simp only [Po.v, Po.cs]
                            go_enter Try.func15, Try.ntmps15
                            go_wp2_with (first | (go_at_call_of 38 te; refine (refnumber_is N0.out _).mono ?_; rintro e w' ⟨rfl, rfl⟩) | (go_at_call_of 38 ix; refine (refnumber_is N1.out _).mono ?_; rintro e w' ⟨rfl, rfl⟩) | (go_at_call_of 38 lt; refine (refnumber_is N2.out _).mono ?_; rintro e w' ⟨rfl, rfl⟩) | (go_at_call_of 38 co; refine (refnumber_is N3.out _).mono ?_; rintro e w' ⟨rfl, rfl⟩) | (go_at_call_of 38 hi; refine (refnumber_is N4.out _).mono ?_; rintro e w' ⟨rfl, rfl⟩))
                            go_ret
                            exact ⟨rfl, Ba (B0 w) _⟩
                          · skip
                            have hnu : numB ⟨kd, fr, tq, te, ix, lt, co, ok, hi, EA, en, ec, si, st, sc, SA, sn, sk⟩ = true := by
                              have h2 := N2.out
                              have h3 : 0 ≤ lt ∧ lt ≤ 9007199254740991 := by simpa [nuB, wiB] using h2
                              simp [numB, N0.out, N1.out, N3.out, N4.out, wiB]
                              omega
                            have HNU := Lib.hid hnu
                            clear hnu
                            have HIX : Hid (0 ≤ ix ∧ ix ≤ 9007199254740991) := Lib.hid (by have h2 := N1.out; simpa [nuB, wiB] using h2)
                            obtain ⟨zm, hzm⟩ : ∃ z, smB q ⟨kd, fr, tq, te, ix, lt, co, ok, hi, EA, en, ec, si, st, sc, SA, sn, sk⟩ (lq.map En.ed) (l.map En.ed) dq d = z := ⟨_, rfl⟩
                            obtain ⟨ze, hze⟩ : ∃ z, (entsB te (ix + 1) lt (l.map En.ed) && decide (((l.map En.ed).length : Int) ≤ 8)) = z := ⟨_, rfl⟩
                            obtain ⟨zp, hzp⟩ : ∃ z, snpB ⟨kd, fr, tq, te, ix, lt, co, ok, hi, EA, en, ec, si, st, sc, SA, sn, sk⟩ = z := ⟨_, rfl⟩
                            have hal : alB ⟨kd, fr, tq, te, ix, lt, co, ok, hi, EA, en, ec, si, st, sc, SA, sn, sk⟩ q = zm := (HSA.out HKD.out).symm.trans hzm
                            have hck := HC.out zm hal
                            rw [HKD.out, HSV.out, HNU.out, hze, hzp] at hck
                            rw [hck]
                            have HSM := Lib.hid hzm
                            have HEN := Lib.hid hze
                            have HSN := Lib.hid hzp
                            clear hal hck hzm hze hzp
                            have HBX := Blk.new w 27 #[.int .i64 kd, .int .i64 fr, .int .i64 tq, .int .i64 te, .int .i64 ix, .int .i64 lt, .int .i64 co, .bool ok, .int .i64 hi, .slice EA en ec, .int .i64 si, .int .i64 st, .int .i64 sc, .slice SA sn sk]
                            cases zm
                            · simp only [Po.v, Po.cs]
                              go_enter Try.func15, Try.ntmps15
                              go_wp2_with (first | (go_at_call_of 38 te; refine (refnumber_is N0.out _).mono ?_; rintro e w' ⟨rfl, rfl⟩) | (go_at_call_of 38 ix; refine (refnumber_is N1.out _).mono ?_; rintro e w' ⟨rfl, rfl⟩) | (go_at_call_of 38 lt; refine (refnumber_is N2.out _).mono ?_; rintro e w' ⟨rfl, rfl⟩) | (go_at_call_of 38 co; refine (refnumber_is N3.out _).mono ?_; rintro e w' ⟨rfl, rfl⟩) | (go_at_call_of 38 hi; refine (refnumber_is N4.out _).mono ?_; rintro e w' ⟨rfl, rfl⟩))
                              refine wp_region_held_drew (S := fun w' => (∀ j, w'.cell? ⟨w.heap.size, j, none⟩ = (#[.int .i64 kd, .int .i64 fr, .int .i64 tq, .int .i64 te, .int .i64 ix, .int .i64 lt, .int .i64 co, .bool ok, .int .i64 hi, .slice EA en ec, .int .i64 si, .int .i64 st, .int .i64 sc, .slice SA sn sk] : Array Value)[j]?)) (by kernel_rfl) (HBX.drew.cell) (fun hHeld => ?_)
                              refine wpAnyH_take (i := 0) (v := ?_) rfl (by kernel_rfl) (by kernel_rfl) (by kernel_rfl) (fun _ _ _ h => h) (Or.inl ⟨by kernel_rfl, ?_⟩) (by assumption) ?_
                              rotate_left 1
                              · (intro w hSw; (try dsimp only at hSw); go_simp; try with_reducible rfl)
                              try simp only [Act.put, List.getElem_toArray, List.getElem_cons_succ, List.getElem_cons_zero, List.setIfInBounds_toArray, List.set_cons_zero, List.set_cons_succ]
                              refine wpAnyH_take (i := 2) (v := ?_) rfl (by kernel_rfl) (by kernel_rfl) (by kernel_rfl) (fun _ _ _ h => h) (Or.inl ⟨by kernel_rfl, ?_⟩) (by assumption) ?_
                              rotate_left 1
                              · (intro w hSw; (try dsimp only at hSw); go_simp; try with_reducible rfl)
                              try simp only [Act.put, List.getElem_toArray, List.getElem_cons_succ, List.getElem_cons_zero, List.setIfInBounds_toArray, List.set_cons_zero, List.set_cons_succ]
                              refine wpAnyH_ready (rs := [1]) (by kernel_rfl) (by simp) ?_
                              refine AllReadyH.cons rfl (fun K hK => ?_) AllReadyH.nil
                              go_simp
                              refine (kept_any ⟨kd, fr, tq, te, ix, lt, co, ok, hi, EA, en, ec, si, st, sc, SA, sn, sk⟩ HKD.out _).mono ?_; rintro e w1 ⟨rfl, hb1⟩; rw [← HQ.out]; have hx1 := HBX.drew.later hb1
                              refine hK.out _ _ (hx1.cell) (fun hHeld => ?_)
                              clear hK K
                              try simp only [Act.put, List.getElem_toArray, List.getElem_cons_succ, List.getElem_cons_zero, List.setIfInBounds_toArray, List.set_cons_zero, List.set_cons_succ]
                              refine wpAnyH_ready (rs := [3]) (by kernel_rfl) (by simp) ?_
                              refine AllReadyH.cons rfl (fun K hK => ?_) AllReadyH.nil
                              go_simp
                              refine (same_any S S q ⟨kd, fr, tq, te, ix, lt, co, ok, hi, EA, en, ec, si, st, sc, SA, sn, sk⟩ lq l dq d _ (HPQ.out.below (Bt (Bd (Ba (B0 w) (.cells #[.int .i64 kd, .int .i64 fr, .int .i64 tq, .int .i64 te, .int .i64 ix, .int .i64 lt, .int .i64 co, .bool ok, .int .i64 hi, .slice EA en ec, .int .i64 si, .int .i64 st, .int .i64 sc, .slice SA sn sk] 27))) hb1)) (HP.out.below (Bt (Bd (Ba (B0 w) (.cells #[.int .i64 kd, .int .i64 fr, .int .i64 tq, .int .i64 te, .int .i64 ix, .int .i64 lt, .int .i64 co, .bool ok, .int .i64 hi, .slice EA en ec, .int .i64 si, .int .i64 st, .int .i64 sc, .slice SA sn sk] 27))) hb1))).mono ?_; rintro e w2 ⟨rfl, hb2⟩; rw [HSM.out]; have hx2 := hx1.later hb2
                              refine hK.out _ _ (hx2.cell) (fun hHeld => ?_)
                              clear hK K
                              try simp only [Act.put, List.getElem_toArray, List.getElem_cons_succ, List.getElem_cons_zero, List.setIfInBounds_toArray, List.set_cons_zero, List.set_cons_succ]
                              refine wpAnyH_take (i := 4) (v := ?_) rfl (by kernel_rfl) (by kernel_rfl) (by kernel_rfl) (fun _ _ _ h => h) (Or.inl ⟨by kernel_rfl, ?_⟩) (by assumption) ?_
                              rotate_left 1
                              · (intro w hSw; (try dsimp only at hSw); go_simp; try with_reducible rfl)
                              try simp only [Act.put, List.getElem_toArray, List.getElem_cons_succ, List.getElem_cons_zero, List.setIfInBounds_toArray, List.set_cons_zero, List.set_cons_succ]
                              refine wpAnyH_take (i := 5) (v := ?_) rfl (by kernel_rfl) (by kernel_rfl) (by kernel_rfl) (fun _ _ _ h => h) (Or.inl ⟨by kernel_rfl, ?_⟩) (by assumption) ?_
                              rotate_left 1
                              · (intro w hSw; (try dsimp only at hSw); go_simp; try with_reducible rfl)
                              try simp only [Act.put, List.getElem_toArray, List.getElem_cons_succ, List.getElem_cons_zero, List.setIfInBounds_toArray, List.set_cons_zero, List.set_cons_succ]
                              refine wpAnyH_take (i := 6) (v := undef) rfl (by kernel_rfl) (by kernel_rfl) (by kernel_rfl) (fun _ _ _ h => h) (Or.inr ⟨by kernel_rfl, rfl⟩) (by assumption) ?_
                              try simp only [Act.put, List.getElem_toArray, List.getElem_cons_succ, List.getElem_cons_zero, List.setIfInBounds_toArray, List.set_cons_zero, List.set_cons_succ]
                              refine wpAnyH_take (i := 7) (v := undef) rfl (by kernel_rfl) (by kernel_rfl) (by kernel_rfl) (fun _ _ _ h => h) (Or.inr ⟨by kernel_rfl, rfl⟩) (by assumption) ?_
                              try simp only [Act.put, List.getElem_toArray, List.getElem_cons_succ, List.getElem_cons_zero, List.setIfInBounds_toArray, List.set_cons_zero, List.set_cons_succ]
                              refine wpAnyH_take (i := 8) (v := undef) rfl (by kernel_rfl) (by kernel_rfl) (by kernel_rfl) (fun _ _ _ h => h) (Or.inr ⟨by kernel_rfl, rfl⟩) (by assumption) ?_
                              try simp only [Act.put, List.getElem_toArray, List.getElem_cons_succ, List.getElem_cons_zero, List.setIfInBounds_toArray, List.set_cons_zero, List.set_cons_succ]
                              refine wpAnyH_take (i := 9) (v := ?_) rfl (by kernel_rfl) (by kernel_rfl) (by kernel_rfl) (fun _ _ _ h => h) (Or.inl ⟨by kernel_rfl, ?_⟩) (by assumption) ?_
                              rotate_left 1
                              · (intro w hSw; (try dsimp only at hSw); go_simp; try with_reducible rfl)
                              try simp only [Act.put, List.getElem_toArray, List.getElem_cons_succ, List.getElem_cons_zero, List.setIfInBounds_toArray, List.set_cons_zero, List.set_cons_succ]
                              refine wpAnyH_take (i := 10) (v := ?_) rfl (by kernel_rfl) (by kernel_rfl) (by kernel_rfl) (fun _ _ _ h => h) (Or.inl ⟨by kernel_rfl, ?_⟩) (by assumption) ?_
                              rotate_left 1
                              · (intro w hSw; (try dsimp only at hSw); go_simp; try with_reducible rfl)
                              try simp only [Act.put, List.getElem_toArray, List.getElem_cons_succ, List.getElem_cons_zero, List.setIfInBounds_toArray, List.set_cons_zero, List.set_cons_succ]
                              refine wpAnyH_take (i := 11) (v := undef) rfl (by kernel_rfl) (by kernel_rfl) (by kernel_rfl) (fun _ _ _ h => h) (Or.inr ⟨by kernel_rfl, rfl⟩) (by assumption) ?_
                              try simp only [Act.put, List.getElem_toArray, List.getElem_cons_succ, List.getElem_cons_zero, List.setIfInBounds_toArray, List.set_cons_zero, List.set_cons_succ]
                              refine wpAnyH_take (i := 12) (v := undef) rfl (by kernel_rfl) (by kernel_rfl) (by kernel_rfl) (fun _ _ _ h => h) (Or.inr ⟨by kernel_rfl, rfl⟩) (by assumption) ?_
                              try simp only [Act.put, List.getElem_toArray, List.getElem_cons_succ, List.getElem_cons_zero, List.setIfInBounds_toArray, List.set_cons_zero, List.set_cons_succ]
                              refine wpAnyH_take (i := 13) (v := undef) rfl (by kernel_rfl) (by kernel_rfl) (by kernel_rfl) (fun _ _ _ h => h) (Or.inr ⟨by kernel_rfl, rfl⟩) (by assumption) ?_
                              try simp only [Act.put, List.getElem_toArray, List.getElem_cons_succ, List.getElem_cons_zero, List.setIfInBounds_toArray, List.set_cons_zero, List.set_cons_succ]
                              refine wpAnyH_take (i := 14) (v := undef) rfl (by kernel_rfl) (by kernel_rfl) (by kernel_rfl) (fun _ _ _ h => h) (Or.inr ⟨by kernel_rfl, rfl⟩) (by assumption) ?_
                              try simp only [Act.put, List.getElem_toArray, List.getElem_cons_succ, List.getElem_cons_zero, List.setIfInBounds_toArray, List.set_cons_zero, List.set_cons_succ]
                              refine wpAnyH_take (i := 15) (v := undef) rfl (by kernel_rfl) (by kernel_rfl) (by kernel_rfl) (fun _ _ _ h => h) (Or.inr ⟨by kernel_rfl, rfl⟩) (by assumption) ?_
                              try simp only [Act.put, List.getElem_toArray, List.getElem_cons_succ, List.getElem_cons_zero, List.setIfInBounds_toArray, List.set_cons_zero, List.set_cons_succ]
                              refine wpAnyH_take (i := 16) (v := undef) rfl (by kernel_rfl) (by kernel_rfl) (by kernel_rfl) (fun _ _ _ h => h) (Or.inr ⟨by kernel_rfl, rfl⟩) (by assumption) ?_
                              try simp only [Act.put, List.getElem_toArray, List.getElem_cons_succ, List.getElem_cons_zero, List.setIfInBounds_toArray, List.set_cons_zero, List.set_cons_succ]
                              refine wpAnyH_take (i := 17) (v := undef) rfl (by kernel_rfl) (by kernel_rfl) (by kernel_rfl) (fun _ _ _ h => h) (Or.inr ⟨by kernel_rfl, rfl⟩) (by assumption) ?_
                              try simp only [Act.put, List.getElem_toArray, List.getElem_cons_succ, List.getElem_cons_zero, List.setIfInBounds_toArray, List.set_cons_zero, List.set_cons_succ]
                              refine wpAnyH_take (i := 18) (v := undef) rfl (by kernel_rfl) (by kernel_rfl) (by kernel_rfl) (fun _ _ _ h => h) (Or.inr ⟨by kernel_rfl, rfl⟩) (by assumption) ?_
                              try simp only [Act.put, List.getElem_toArray, List.getElem_cons_succ, List.getElem_cons_zero, List.setIfInBounds_toArray, List.set_cons_zero, List.set_cons_succ]
                              refine wpAnyH_take (i := 19) (v := ?_) rfl (by kernel_rfl) (by kernel_rfl) (by kernel_rfl) (fun _ _ _ h => h) (Or.inl ⟨by kernel_rfl, ?_⟩) (by assumption) ?_
                              rotate_left 1
                              · (intro w hSw; (try dsimp only at hSw); go_simp; try with_reducible rfl)
                              try simp only [Act.put, List.getElem_toArray, List.getElem_cons_succ, List.getElem_cons_zero, List.setIfInBounds_toArray, List.set_cons_zero, List.set_cons_succ]
                              refine wpAnyH_done (by kernel_rfl) ?_ _
                              go_wp2_with fail
                              go_ret
                              exact ⟨rfl, Bt (Bt (Bd (Ba (B0 w) (.cells #[.int .i64 kd, .int .i64 fr, .int .i64 tq, .int .i64 te, .int .i64 ix, .int .i64 lt, .int .i64 co, .bool ok, .int .i64 hi, .slice EA en ec, .int .i64 si, .int .i64 st, .int .i64 sc, .slice SA sn sk] 27))) hb1) hb2⟩
                            · cases ze
                              · simp only [Po.v, Po.cs]
                                go_enter Try.func15, Try.ntmps15
                                go_wp2_with (first | (go_at_call_of 38 te; refine (refnumber_is N0.out _).mono ?_; rintro e w' ⟨rfl, rfl⟩) | (go_at_call_of 38 ix; refine (refnumber_is N1.out _).mono ?_; rintro e w' ⟨rfl, rfl⟩) | (go_at_call_of 38 lt; refine (refnumber_is N2.out _).mono ?_; rintro e w' ⟨rfl, rfl⟩) | (go_at_call_of 38 co; refine (refnumber_is N3.out _).mono ?_; rintro e w' ⟨rfl, rfl⟩) | (go_at_call_of 38 hi; refine (refnumber_is N4.out _).mono ?_; rintro e w' ⟨rfl, rfl⟩))
                                refine wp_region_held_drew (S := fun w' => (∀ j, w'.cell? ⟨w.heap.size, j, none⟩ = (#[.int .i64 kd, .int .i64 fr, .int .i64 tq, .int .i64 te, .int .i64 ix, .int .i64 lt, .int .i64 co, .bool ok, .int .i64 hi, .slice EA en ec, .int .i64 si, .int .i64 st, .int .i64 sc, .slice SA sn sk] : Array Value)[j]?)) (by kernel_rfl) (HBX.drew.cell) (fun hHeld => ?_)
                                refine wpAnyH_take (i := 0) (v := ?_) rfl (by kernel_rfl) (by kernel_rfl) (by kernel_rfl) (fun _ _ _ h => h) (Or.inl ⟨by kernel_rfl, ?_⟩) (by assumption) ?_
                                rotate_left 1
                                · (intro w hSw; (try dsimp only at hSw); go_simp; try with_reducible rfl)
                                try simp only [Act.put, List.getElem_toArray, List.getElem_cons_succ, List.getElem_cons_zero, List.setIfInBounds_toArray, List.set_cons_zero, List.set_cons_succ]
                                refine wpAnyH_take (i := 2) (v := ?_) rfl (by kernel_rfl) (by kernel_rfl) (by kernel_rfl) (fun _ _ _ h => h) (Or.inl ⟨by kernel_rfl, ?_⟩) (by assumption) ?_
                                rotate_left 1
                                · (intro w hSw; (try dsimp only at hSw); go_simp; try with_reducible rfl)
                                try simp only [Act.put, List.getElem_toArray, List.getElem_cons_succ, List.getElem_cons_zero, List.setIfInBounds_toArray, List.set_cons_zero, List.set_cons_succ]
                                refine wpAnyH_ready (rs := [1]) (by kernel_rfl) (by simp) ?_
                                refine AllReadyH.cons rfl (fun K hK => ?_) AllReadyH.nil
                                go_simp
                                refine (kept_any ⟨kd, fr, tq, te, ix, lt, co, ok, hi, EA, en, ec, si, st, sc, SA, sn, sk⟩ HKD.out _).mono ?_; rintro e w1 ⟨rfl, hb1⟩; rw [← HQ.out]; have hx1 := HBX.drew.later hb1
                                refine hK.out _ _ (hx1.cell) (fun hHeld => ?_)
                                clear hK K
                                try simp only [Act.put, List.getElem_toArray, List.getElem_cons_succ, List.getElem_cons_zero, List.setIfInBounds_toArray, List.set_cons_zero, List.set_cons_succ]
                                refine wpAnyH_ready (rs := [3]) (by kernel_rfl) (by simp) ?_
                                refine AllReadyH.cons rfl (fun K hK => ?_) AllReadyH.nil
                                go_simp
                                refine (same_any S S q ⟨kd, fr, tq, te, ix, lt, co, ok, hi, EA, en, ec, si, st, sc, SA, sn, sk⟩ lq l dq d _ (HPQ.out.below (Bt (Bd (Ba (B0 w) (.cells #[.int .i64 kd, .int .i64 fr, .int .i64 tq, .int .i64 te, .int .i64 ix, .int .i64 lt, .int .i64 co, .bool ok, .int .i64 hi, .slice EA en ec, .int .i64 si, .int .i64 st, .int .i64 sc, .slice SA sn sk] 27))) hb1)) (HP.out.below (Bt (Bd (Ba (B0 w) (.cells #[.int .i64 kd, .int .i64 fr, .int .i64 tq, .int .i64 te, .int .i64 ix, .int .i64 lt, .int .i64 co, .bool ok, .int .i64 hi, .slice EA en ec, .int .i64 si, .int .i64 st, .int .i64 sc, .slice SA sn sk] 27))) hb1))).mono ?_; rintro e w2 ⟨rfl, hb2⟩; rw [HSM.out]; have hx2 := hx1.later hb2
                                refine hK.out _ _ (hx2.cell) (fun hHeld => ?_)
                                clear hK K
                                try simp only [Act.put, List.getElem_toArray, List.getElem_cons_succ, List.getElem_cons_zero, List.setIfInBounds_toArray, List.set_cons_zero, List.set_cons_succ]
                                refine wpAnyH_take (i := 4) (v := ?_) rfl (by kernel_rfl) (by kernel_rfl) (by kernel_rfl) (fun _ _ _ h => h) (Or.inl ⟨by kernel_rfl, ?_⟩) (by assumption) ?_
                                rotate_left 1
                                · (intro w hSw; (try dsimp only at hSw); go_simp; try with_reducible rfl)
                                try simp only [Act.put, List.getElem_toArray, List.getElem_cons_succ, List.getElem_cons_zero, List.setIfInBounds_toArray, List.set_cons_zero, List.set_cons_succ]
                                refine wpAnyH_take (i := 5) (v := ?_) rfl (by kernel_rfl) (by kernel_rfl) (by kernel_rfl) (fun _ _ _ h => h) (Or.inl ⟨by kernel_rfl, ?_⟩) (by assumption) ?_
                                rotate_left 1
                                · (intro w hSw; (try dsimp only at hSw); go_simp; try with_reducible rfl)
                                try simp only [Act.put, List.getElem_toArray, List.getElem_cons_succ, List.getElem_cons_zero, List.setIfInBounds_toArray, List.set_cons_zero, List.set_cons_succ]
                                refine wpAnyH_take (i := 6) (v := ?_) rfl (by kernel_rfl) (by kernel_rfl) (by kernel_rfl) (fun _ _ _ h => h) (Or.inl ⟨by kernel_rfl, ?_⟩) (by assumption) ?_
                                rotate_left 1
                                · (intro w hSw; (try dsimp only at hSw); go_simp; try with_reducible rfl)
                                try simp only [Act.put, List.getElem_toArray, List.getElem_cons_succ, List.getElem_cons_zero, List.setIfInBounds_toArray, List.set_cons_zero, List.set_cons_succ]
                                refine wpAnyH_ready (rs := [7]) (by kernel_rfl) (by simp) ?_
                                refine AllReadyH.cons rfl (fun K hK => ?_) AllReadyH.nil
                                go_simp
                                refine (lists_any S ⟨kd, fr, tq, te, ix, lt, co, ok, hi, EA, en, ec, si, st, sc, SA, sn, sk⟩ l _ (HP.out.below (Bt (Bt (Bd (Ba (B0 w) (.cells #[.int .i64 kd, .int .i64 fr, .int .i64 tq, .int .i64 te, .int .i64 ix, .int .i64 lt, .int .i64 co, .bool ok, .int .i64 hi, .slice EA en ec, .int .i64 si, .int .i64 st, .int .i64 sc, .slice SA sn sk] 27))) hb1) hb2)).rd (HP.out.below (Bt (Bt (Bd (Ba (B0 w) (.cells #[.int .i64 kd, .int .i64 fr, .int .i64 tq, .int .i64 te, .int .i64 ix, .int .i64 lt, .int .i64 co, .bool ok, .int .i64 hi, .slice EA en ec, .int .i64 si, .int .i64 st, .int .i64 sc, .slice SA sn sk] 27))) hb1) hb2)).lt HP.out.len HIX.out).mono ?_; rintro e w3 ⟨rfl, hb3⟩; rw [HEN.out]; have hx3 := hx2.later hb3
                                refine hK.out _ _ (hx3.cell) (fun hHeld => ?_)
                                clear hK K
                                try simp only [Act.put, List.getElem_toArray, List.getElem_cons_succ, List.getElem_cons_zero, List.setIfInBounds_toArray, List.set_cons_zero, List.set_cons_succ]
                                refine wpAnyH_take (i := 8) (v := ?_) rfl (by kernel_rfl) (by kernel_rfl) (by kernel_rfl) (fun _ _ _ h => h) (Or.inl ⟨by kernel_rfl, ?_⟩) (by assumption) ?_
                                rotate_left 1
                                · (intro w hSw; (try dsimp only at hSw); go_simp; try with_reducible rfl)
                                try simp only [Act.put, List.getElem_toArray, List.getElem_cons_succ, List.getElem_cons_zero, List.setIfInBounds_toArray, List.set_cons_zero, List.set_cons_succ]
                                refine wpAnyH_take (i := 9) (v := ?_) rfl (by kernel_rfl) (by kernel_rfl) (by kernel_rfl) (fun _ _ _ h => h) (Or.inl ⟨by kernel_rfl, ?_⟩) (by assumption) ?_
                                rotate_left 1
                                · (intro w hSw; (try dsimp only at hSw); go_simp; try with_reducible rfl)
                                try simp only [Act.put, List.getElem_toArray, List.getElem_cons_succ, List.getElem_cons_zero, List.setIfInBounds_toArray, List.set_cons_zero, List.set_cons_succ]
                                refine wpAnyH_take (i := 10) (v := ?_) rfl (by kernel_rfl) (by kernel_rfl) (by kernel_rfl) (fun _ _ _ h => h) (Or.inl ⟨by kernel_rfl, ?_⟩) (by assumption) ?_
                                rotate_left 1
                                · (intro w hSw; (try dsimp only at hSw); go_simp; try with_reducible rfl)
                                try simp only [Act.put, List.getElem_toArray, List.getElem_cons_succ, List.getElem_cons_zero, List.setIfInBounds_toArray, List.set_cons_zero, List.set_cons_succ]
                                refine wpAnyH_take (i := 11) (v := undef) rfl (by kernel_rfl) (by kernel_rfl) (by kernel_rfl) (fun _ _ _ h => h) (Or.inr ⟨by kernel_rfl, rfl⟩) (by assumption) ?_
                                try simp only [Act.put, List.getElem_toArray, List.getElem_cons_succ, List.getElem_cons_zero, List.setIfInBounds_toArray, List.set_cons_zero, List.set_cons_succ]
                                refine wpAnyH_take (i := 12) (v := undef) rfl (by kernel_rfl) (by kernel_rfl) (by kernel_rfl) (fun _ _ _ h => h) (Or.inr ⟨by kernel_rfl, rfl⟩) (by assumption) ?_
                                try simp only [Act.put, List.getElem_toArray, List.getElem_cons_succ, List.getElem_cons_zero, List.setIfInBounds_toArray, List.set_cons_zero, List.set_cons_succ]
                                refine wpAnyH_take (i := 13) (v := undef) rfl (by kernel_rfl) (by kernel_rfl) (by kernel_rfl) (fun _ _ _ h => h) (Or.inr ⟨by kernel_rfl, rfl⟩) (by assumption) ?_
                                try simp only [Act.put, List.getElem_toArray, List.getElem_cons_succ, List.getElem_cons_zero, List.setIfInBounds_toArray, List.set_cons_zero, List.set_cons_succ]
                                refine wpAnyH_take (i := 14) (v := undef) rfl (by kernel_rfl) (by kernel_rfl) (by kernel_rfl) (fun _ _ _ h => h) (Or.inr ⟨by kernel_rfl, rfl⟩) (by assumption) ?_
                                try simp only [Act.put, List.getElem_toArray, List.getElem_cons_succ, List.getElem_cons_zero, List.setIfInBounds_toArray, List.set_cons_zero, List.set_cons_succ]
                                refine wpAnyH_take (i := 15) (v := undef) rfl (by kernel_rfl) (by kernel_rfl) (by kernel_rfl) (fun _ _ _ h => h) (Or.inr ⟨by kernel_rfl, rfl⟩) (by assumption) ?_
                                try simp only [Act.put, List.getElem_toArray, List.getElem_cons_succ, List.getElem_cons_zero, List.setIfInBounds_toArray, List.set_cons_zero, List.set_cons_succ]
                                refine wpAnyH_take (i := 16) (v := undef) rfl (by kernel_rfl) (by kernel_rfl) (by kernel_rfl) (fun _ _ _ h => h) (Or.inr ⟨by kernel_rfl, rfl⟩) (by assumption) ?_
                                try simp only [Act.put, List.getElem_toArray, List.getElem_cons_succ, List.getElem_cons_zero, List.setIfInBounds_toArray, List.set_cons_zero, List.set_cons_succ]
                                refine wpAnyH_take (i := 17) (v := undef) rfl (by kernel_rfl) (by kernel_rfl) (by kernel_rfl) (fun _ _ _ h => h) (Or.inr ⟨by kernel_rfl, rfl⟩) (by assumption) ?_
                                try simp only [Act.put, List.getElem_toArray, List.getElem_cons_succ, List.getElem_cons_zero, List.setIfInBounds_toArray, List.set_cons_zero, List.set_cons_succ]
                                refine wpAnyH_take (i := 18) (v := undef) rfl (by kernel_rfl) (by kernel_rfl) (by kernel_rfl) (fun _ _ _ h => h) (Or.inr ⟨by kernel_rfl, rfl⟩) (by assumption) ?_
                                try simp only [Act.put, List.getElem_toArray, List.getElem_cons_succ, List.getElem_cons_zero, List.setIfInBounds_toArray, List.set_cons_zero, List.set_cons_succ]
                                refine wpAnyH_take (i := 19) (v := ?_) rfl (by kernel_rfl) (by kernel_rfl) (by kernel_rfl) (fun _ _ _ h => h) (Or.inl ⟨by kernel_rfl, ?_⟩) (by assumption) ?_
                                rotate_left 1
                                · (intro w hSw; (try dsimp only at hSw); go_simp; try with_reducible rfl)
                                try simp only [Act.put, List.getElem_toArray, List.getElem_cons_succ, List.getElem_cons_zero, List.setIfInBounds_toArray, List.set_cons_zero, List.set_cons_succ]
                                refine wpAnyH_done (by kernel_rfl) ?_ _
                                go_wp2_with fail
                                go_ret
                                exact ⟨rfl, Bt (Bt (Bt (Bd (Ba (B0 w) (.cells #[.int .i64 kd, .int .i64 fr, .int .i64 tq, .int .i64 te, .int .i64 ix, .int .i64 lt, .int .i64 co, .bool ok, .int .i64 hi, .slice EA en ec, .int .i64 si, .int .i64 st, .int .i64 sc, .slice SA sn sk] 27))) hb1) hb2) hb3⟩
                              · cases a7 : (kd == 5)
                                · simp only [Po.v, Po.cs]
                                  go_enter Try.func15, Try.ntmps15
                                  go_wp2_with (first | (go_at_call_of 38 te; refine (refnumber_is N0.out _).mono ?_; rintro e w' ⟨rfl, rfl⟩) | (go_at_call_of 38 ix; refine (refnumber_is N1.out _).mono ?_; rintro e w' ⟨rfl, rfl⟩) | (go_at_call_of 38 lt; refine (refnumber_is N2.out _).mono ?_; rintro e w' ⟨rfl, rfl⟩) | (go_at_call_of 38 co; refine (refnumber_is N3.out _).mono ?_; rintro e w' ⟨rfl, rfl⟩) | (go_at_call_of 38 hi; refine (refnumber_is N4.out _).mono ?_; rintro e w' ⟨rfl, rfl⟩))
                                  refine wp_region_held_drew (S := fun w' => (∀ j, w'.cell? ⟨w.heap.size, j, none⟩ = (#[.int .i64 kd, .int .i64 fr, .int .i64 tq, .int .i64 te, .int .i64 ix, .int .i64 lt, .int .i64 co, .bool ok, .int .i64 hi, .slice EA en ec, .int .i64 si, .int .i64 st, .int .i64 sc, .slice SA sn sk] : Array Value)[j]?)) (by kernel_rfl) (HBX.drew.cell) (fun hHeld => ?_)
                                  refine wpAnyH_take (i := 0) (v := ?_) rfl (by kernel_rfl) (by kernel_rfl) (by kernel_rfl) (fun _ _ _ h => h) (Or.inl ⟨by kernel_rfl, ?_⟩) (by assumption) ?_
                                  rotate_left 1
                                  · (intro w hSw; (try dsimp only at hSw); go_simp; try with_reducible rfl)
                                  try simp only [Act.put, List.getElem_toArray, List.getElem_cons_succ, List.getElem_cons_zero, List.setIfInBounds_toArray, List.set_cons_zero, List.set_cons_succ]
                                  refine wpAnyH_take (i := 2) (v := ?_) rfl (by kernel_rfl) (by kernel_rfl) (by kernel_rfl) (fun _ _ _ h => h) (Or.inl ⟨by kernel_rfl, ?_⟩) (by assumption) ?_
                                  rotate_left 1
                                  · (intro w hSw; (try dsimp only at hSw); go_simp; try with_reducible rfl)
                                  try simp only [Act.put, List.getElem_toArray, List.getElem_cons_succ, List.getElem_cons_zero, List.setIfInBounds_toArray, List.set_cons_zero, List.set_cons_succ]
                                  refine wpAnyH_ready (rs := [1]) (by kernel_rfl) (by simp) ?_
                                  refine AllReadyH.cons rfl (fun K hK => ?_) AllReadyH.nil
                                  go_simp
                                  refine (kept_any ⟨kd, fr, tq, te, ix, lt, co, ok, hi, EA, en, ec, si, st, sc, SA, sn, sk⟩ HKD.out _).mono ?_; rintro e w1 ⟨rfl, hb1⟩; rw [← HQ.out]; have hx1 := HBX.drew.later hb1
                                  refine hK.out _ _ (hx1.cell) (fun hHeld => ?_)
                                  clear hK K
                                  try simp only [Act.put, List.getElem_toArray, List.getElem_cons_succ, List.getElem_cons_zero, List.setIfInBounds_toArray, List.set_cons_zero, List.set_cons_succ]
                                  refine wpAnyH_ready (rs := [3]) (by kernel_rfl) (by simp) ?_
                                  refine AllReadyH.cons rfl (fun K hK => ?_) AllReadyH.nil
                                  go_simp
                                  refine (same_any S S q ⟨kd, fr, tq, te, ix, lt, co, ok, hi, EA, en, ec, si, st, sc, SA, sn, sk⟩ lq l dq d _ (HPQ.out.below (Bt (Bd (Ba (B0 w) (.cells #[.int .i64 kd, .int .i64 fr, .int .i64 tq, .int .i64 te, .int .i64 ix, .int .i64 lt, .int .i64 co, .bool ok, .int .i64 hi, .slice EA en ec, .int .i64 si, .int .i64 st, .int .i64 sc, .slice SA sn sk] 27))) hb1)) (HP.out.below (Bt (Bd (Ba (B0 w) (.cells #[.int .i64 kd, .int .i64 fr, .int .i64 tq, .int .i64 te, .int .i64 ix, .int .i64 lt, .int .i64 co, .bool ok, .int .i64 hi, .slice EA en ec, .int .i64 si, .int .i64 st, .int .i64 sc, .slice SA sn sk] 27))) hb1))).mono ?_; rintro e w2 ⟨rfl, hb2⟩; rw [HSM.out]; have hx2 := hx1.later hb2
                                  refine hK.out _ _ (hx2.cell) (fun hHeld => ?_)
                                  clear hK K
                                  try simp only [Act.put, List.getElem_toArray, List.getElem_cons_succ, List.getElem_cons_zero, List.setIfInBounds_toArray, List.set_cons_zero, List.set_cons_succ]
                                  refine wpAnyH_take (i := 4) (v := ?_) rfl (by kernel_rfl) (by kernel_rfl) (by kernel_rfl) (fun _ _ _ h => h) (Or.inl ⟨by kernel_rfl, ?_⟩) (by assumption) ?_
                                  rotate_left 1
                                  · (intro w hSw; (try dsimp only at hSw); go_simp; try with_reducible rfl)
                                  try simp only [Act.put, List.getElem_toArray, List.getElem_cons_succ, List.getElem_cons_zero, List.setIfInBounds_toArray, List.set_cons_zero, List.set_cons_succ]
                                  refine wpAnyH_take (i := 5) (v := ?_) rfl (by kernel_rfl) (by kernel_rfl) (by kernel_rfl) (fun _ _ _ h => h) (Or.inl ⟨by kernel_rfl, ?_⟩) (by assumption) ?_
                                  rotate_left 1
                                  · (intro w hSw; (try dsimp only at hSw); go_simp; try with_reducible rfl)
                                  try simp only [Act.put, List.getElem_toArray, List.getElem_cons_succ, List.getElem_cons_zero, List.setIfInBounds_toArray, List.set_cons_zero, List.set_cons_succ]
                                  refine wpAnyH_take (i := 6) (v := ?_) rfl (by kernel_rfl) (by kernel_rfl) (by kernel_rfl) (fun _ _ _ h => h) (Or.inl ⟨by kernel_rfl, ?_⟩) (by assumption) ?_
                                  rotate_left 1
                                  · (intro w hSw; (try dsimp only at hSw); go_simp; try with_reducible rfl)
                                  try simp only [Act.put, List.getElem_toArray, List.getElem_cons_succ, List.getElem_cons_zero, List.setIfInBounds_toArray, List.set_cons_zero, List.set_cons_succ]
                                  refine wpAnyH_ready (rs := [7]) (by kernel_rfl) (by simp) ?_
                                  refine AllReadyH.cons rfl (fun K hK => ?_) AllReadyH.nil
                                  go_simp
                                  refine (lists_any S ⟨kd, fr, tq, te, ix, lt, co, ok, hi, EA, en, ec, si, st, sc, SA, sn, sk⟩ l _ (HP.out.below (Bt (Bt (Bd (Ba (B0 w) (.cells #[.int .i64 kd, .int .i64 fr, .int .i64 tq, .int .i64 te, .int .i64 ix, .int .i64 lt, .int .i64 co, .bool ok, .int .i64 hi, .slice EA en ec, .int .i64 si, .int .i64 st, .int .i64 sc, .slice SA sn sk] 27))) hb1) hb2)).rd (HP.out.below (Bt (Bt (Bd (Ba (B0 w) (.cells #[.int .i64 kd, .int .i64 fr, .int .i64 tq, .int .i64 te, .int .i64 ix, .int .i64 lt, .int .i64 co, .bool ok, .int .i64 hi, .slice EA en ec, .int .i64 si, .int .i64 st, .int .i64 sc, .slice SA sn sk] 27))) hb1) hb2)).lt HP.out.len HIX.out).mono ?_; rintro e w3 ⟨rfl, hb3⟩; rw [HEN.out]; have hx3 := hx2.later hb3
                                  refine hK.out _ _ (hx3.cell) (fun hHeld => ?_)
                                  clear hK K
                                  try simp only [Act.put, List.getElem_toArray, List.getElem_cons_succ, List.getElem_cons_zero, List.setIfInBounds_toArray, List.set_cons_zero, List.set_cons_succ]
                                  refine wpAnyH_take (i := 8) (v := ?_) rfl (by kernel_rfl) (by kernel_rfl) (by kernel_rfl) (fun _ _ _ h => h) (Or.inl ⟨by kernel_rfl, ?_⟩) (by assumption) ?_
                                  rotate_left 1
                                  · (intro w hSw; (try dsimp only at hSw); go_simp; try with_reducible rfl)
                                  try simp only [Act.put, List.getElem_toArray, List.getElem_cons_succ, List.getElem_cons_zero, List.setIfInBounds_toArray, List.set_cons_zero, List.set_cons_succ]
                                  refine wpAnyH_take (i := 9) (v := ?_) rfl (by kernel_rfl) (by kernel_rfl) (by kernel_rfl) (fun _ _ _ h => h) (Or.inl ⟨by kernel_rfl, ?_⟩) (by assumption) ?_
                                  rotate_left 1
                                  · (intro w hSw; (try dsimp only at hSw); go_simp; try with_reducible rfl)
                                  try simp only [Act.put, List.getElem_toArray, List.getElem_cons_succ, List.getElem_cons_zero, List.setIfInBounds_toArray, List.set_cons_zero, List.set_cons_succ]
                                  refine wpAnyH_take (i := 10) (v := ?_) rfl (by kernel_rfl) (by kernel_rfl) (by kernel_rfl) (fun _ _ _ h => h) (Or.inl ⟨by kernel_rfl, ?_⟩) (by assumption) ?_
                                  rotate_left 1
                                  · (intro w hSw; (try dsimp only at hSw); go_simp; try with_reducible rfl)
                                  try simp only [Act.put, List.getElem_toArray, List.getElem_cons_succ, List.getElem_cons_zero, List.setIfInBounds_toArray, List.set_cons_zero, List.set_cons_succ]
                                  refine wpAnyH_take (i := 11) (v := ?_) rfl (by kernel_rfl) (by kernel_rfl) (by kernel_rfl) (fun _ _ _ h => h) (Or.inl ⟨by kernel_rfl, ?_⟩) (by assumption) ?_
                                  rotate_left 1
                                  · (intro w hSw; (try dsimp only at hSw); go_simp; try with_reducible rfl)
                                  try simp only [Act.put, List.getElem_toArray, List.getElem_cons_succ, List.getElem_cons_zero, List.setIfInBounds_toArray, List.set_cons_zero, List.set_cons_succ]
                                  refine wpAnyH_take (i := 12) (v := ?_) rfl (by kernel_rfl) (by kernel_rfl) (by kernel_rfl) (fun _ _ _ h => h) (Or.inl ⟨by kernel_rfl, ?_⟩) (by assumption) ?_
                                  rotate_left 1
                                  · (intro w hSw; (try dsimp only at hSw); go_simp; try with_reducible rfl)
                                  try simp only [Act.put, List.getElem_toArray, List.getElem_cons_succ, List.getElem_cons_zero, List.setIfInBounds_toArray, List.set_cons_zero, List.set_cons_succ]
                                  refine wpAnyH_take (i := 13) (v := ?_) rfl (by kernel_rfl) (by kernel_rfl) (by kernel_rfl) (fun _ _ _ h => h) (Or.inl ⟨by kernel_rfl, ?_⟩) (by assumption) ?_
                                  rotate_left 1
                                  · (intro w hSw; (try dsimp only at hSw); go_simp; try with_reducible rfl)
                                  try simp only [Act.put, List.getElem_toArray, List.getElem_cons_succ, List.getElem_cons_zero, List.setIfInBounds_toArray, List.set_cons_zero, List.set_cons_succ]
                                  refine wpAnyH_take (i := 14) (v := ?_) rfl (by kernel_rfl) (by kernel_rfl) (by kernel_rfl) (fun _ _ _ h => h) (Or.inl ⟨by kernel_rfl, ?_⟩) (by assumption) ?_
                                  rotate_left 1
                                  · (intro w hSw; (try dsimp only at hSw); go_simp; try with_reducible rfl)
                                  try simp only [Act.put, List.getElem_toArray, List.getElem_cons_succ, List.getElem_cons_zero, List.setIfInBounds_toArray, List.set_cons_zero, List.set_cons_succ]
                                  refine wpAnyH_take (i := 15) (v := undef) rfl (by kernel_rfl) (by kernel_rfl) (by kernel_rfl) (fun _ _ _ h => h) (Or.inr ⟨by kernel_rfl, rfl⟩) (by assumption) ?_
                                  try simp only [Act.put, List.getElem_toArray, List.getElem_cons_succ, List.getElem_cons_zero, List.setIfInBounds_toArray, List.set_cons_zero, List.set_cons_succ]
                                  refine wpAnyH_take (i := 16) (v := undef) rfl (by kernel_rfl) (by kernel_rfl) (by kernel_rfl) (fun _ _ _ h => h) (Or.inr ⟨by kernel_rfl, rfl⟩) (by assumption) ?_
                                  try simp only [Act.put, List.getElem_toArray, List.getElem_cons_succ, List.getElem_cons_zero, List.setIfInBounds_toArray, List.set_cons_zero, List.set_cons_succ]
                                  refine wpAnyH_take (i := 17) (v := undef) rfl (by kernel_rfl) (by kernel_rfl) (by kernel_rfl) (fun _ _ _ h => h) (Or.inr ⟨by kernel_rfl, rfl⟩) (by assumption) ?_
                                  try simp only [Act.put, List.getElem_toArray, List.getElem_cons_succ, List.getElem_cons_zero, List.setIfInBounds_toArray, List.set_cons_zero, List.set_cons_succ]
                                  refine wpAnyH_take (i := 18) (v := ?_) rfl (by kernel_rfl) (by kernel_rfl) (by kernel_rfl) (fun _ _ _ h => h) (Or.inl ⟨by kernel_rfl, ?_⟩) (by assumption) ?_
                                  rotate_left 1
                                  · (intro w hSw; (try dsimp only at hSw); go_simp; try with_reducible rfl)
                                  try simp only [Act.put, List.getElem_toArray, List.getElem_cons_succ, List.getElem_cons_zero, List.setIfInBounds_toArray, List.set_cons_zero, List.set_cons_succ]
                                  refine wpAnyH_take (i := 19) (v := ?_) rfl (by kernel_rfl) (by kernel_rfl) (by kernel_rfl) (fun _ _ _ h => h) (Or.inl ⟨by kernel_rfl, ?_⟩) (by assumption) ?_
                                  rotate_left 1
                                  · (intro w hSw; (try dsimp only at hSw); go_simp; try with_reducible rfl)
                                  try simp only [Act.put, List.getElem_toArray, List.getElem_cons_succ, List.getElem_cons_zero, List.setIfInBounds_toArray, List.set_cons_zero, List.set_cons_succ]
                                  refine wpAnyH_done (by kernel_rfl) ?_ _
                                  go_wp2_with fail
                                  go_ret
                                  exact ⟨rfl, Bt (Bt (Bt (Bd (Ba (B0 w) (.cells #[.int .i64 kd, .int .i64 fr, .int .i64 tq, .int .i64 te, .int .i64 ix, .int .i64 lt, .int .i64 co, .bool ok, .int .i64 hi, .slice EA en ec, .int .i64 si, .int .i64 st, .int .i64 sc, .slice SA sn sk] 27))) hb1) hb2) hb3⟩
                                · cases zp
                                  · simp only [Po.v, Po.cs]
                                    go_enter Try.func15, Try.ntmps15
                                    go_wp2_with (first | (go_at_call_of 38 te; refine (refnumber_is N0.out _).mono ?_; rintro e w' ⟨rfl, rfl⟩) | (go_at_call_of 38 ix; refine (refnumber_is N1.out _).mono ?_; rintro e w' ⟨rfl, rfl⟩) | (go_at_call_of 38 lt; refine (refnumber_is N2.out _).mono ?_; rintro e w' ⟨rfl, rfl⟩) | (go_at_call_of 38 co; refine (refnumber_is N3.out _).mono ?_; rintro e w' ⟨rfl, rfl⟩) | (go_at_call_of 38 hi; refine (refnumber_is N4.out _).mono ?_; rintro e w' ⟨rfl, rfl⟩))
                                    refine wp_region_held_drew (S := fun w' => (∀ j, w'.cell? ⟨w.heap.size, j, none⟩ = (#[.int .i64 kd, .int .i64 fr, .int .i64 tq, .int .i64 te, .int .i64 ix, .int .i64 lt, .int .i64 co, .bool ok, .int .i64 hi, .slice EA en ec, .int .i64 si, .int .i64 st, .int .i64 sc, .slice SA sn sk] : Array Value)[j]?)) (by kernel_rfl) (HBX.drew.cell) (fun hHeld => ?_)
                                    refine wpAnyH_take (i := 0) (v := ?_) rfl (by kernel_rfl) (by kernel_rfl) (by kernel_rfl) (fun _ _ _ h => h) (Or.inl ⟨by kernel_rfl, ?_⟩) (by assumption) ?_
                                    rotate_left 1
                                    · (intro w hSw; (try dsimp only at hSw); go_simp; try with_reducible rfl)
                                    try simp only [Act.put, List.getElem_toArray, List.getElem_cons_succ, List.getElem_cons_zero, List.setIfInBounds_toArray, List.set_cons_zero, List.set_cons_succ]
                                    refine wpAnyH_take (i := 2) (v := ?_) rfl (by kernel_rfl) (by kernel_rfl) (by kernel_rfl) (fun _ _ _ h => h) (Or.inl ⟨by kernel_rfl, ?_⟩) (by assumption) ?_
                                    rotate_left 1
                                    · (intro w hSw; (try dsimp only at hSw); go_simp; try with_reducible rfl)
                                    try simp only [Act.put, List.getElem_toArray, List.getElem_cons_succ, List.getElem_cons_zero, List.setIfInBounds_toArray, List.set_cons_zero, List.set_cons_succ]
                                    refine wpAnyH_ready (rs := [1]) (by kernel_rfl) (by simp) ?_
                                    refine AllReadyH.cons rfl (fun K hK => ?_) AllReadyH.nil
                                    go_simp
                                    refine (kept_any ⟨kd, fr, tq, te, ix, lt, co, ok, hi, EA, en, ec, si, st, sc, SA, sn, sk⟩ HKD.out _).mono ?_; rintro e w1 ⟨rfl, hb1⟩; rw [← HQ.out]; have hx1 := HBX.drew.later hb1
                                    refine hK.out _ _ (hx1.cell) (fun hHeld => ?_)
                                    clear hK K
                                    try simp only [Act.put, List.getElem_toArray, List.getElem_cons_succ, List.getElem_cons_zero, List.setIfInBounds_toArray, List.set_cons_zero, List.set_cons_succ]
                                    refine wpAnyH_ready (rs := [3]) (by kernel_rfl) (by simp) ?_
                                    refine AllReadyH.cons rfl (fun K hK => ?_) AllReadyH.nil
                                    go_simp
                                    refine (same_any S S q ⟨kd, fr, tq, te, ix, lt, co, ok, hi, EA, en, ec, si, st, sc, SA, sn, sk⟩ lq l dq d _ (HPQ.out.below (Bt (Bd (Ba (B0 w) (.cells #[.int .i64 kd, .int .i64 fr, .int .i64 tq, .int .i64 te, .int .i64 ix, .int .i64 lt, .int .i64 co, .bool ok, .int .i64 hi, .slice EA en ec, .int .i64 si, .int .i64 st, .int .i64 sc, .slice SA sn sk] 27))) hb1)) (HP.out.below (Bt (Bd (Ba (B0 w) (.cells #[.int .i64 kd, .int .i64 fr, .int .i64 tq, .int .i64 te, .int .i64 ix, .int .i64 lt, .int .i64 co, .bool ok, .int .i64 hi, .slice EA en ec, .int .i64 si, .int .i64 st, .int .i64 sc, .slice SA sn sk] 27))) hb1))).mono ?_; rintro e w2 ⟨rfl, hb2⟩; rw [HSM.out]; have hx2 := hx1.later hb2
                                    refine hK.out _ _ (hx2.cell) (fun hHeld => ?_)
                                    clear hK K
                                    try simp only [Act.put, List.getElem_toArray, List.getElem_cons_succ, List.getElem_cons_zero, List.setIfInBounds_toArray, List.set_cons_zero, List.set_cons_succ]
                                    refine wpAnyH_take (i := 4) (v := ?_) rfl (by kernel_rfl) (by kernel_rfl) (by kernel_rfl) (fun _ _ _ h => h) (Or.inl ⟨by kernel_rfl, ?_⟩) (by assumption) ?_
                                    rotate_left 1
                                    · (intro w hSw; (try dsimp only at hSw); go_simp; try with_reducible rfl)
                                    try simp only [Act.put, List.getElem_toArray, List.getElem_cons_succ, List.getElem_cons_zero, List.setIfInBounds_toArray, List.set_cons_zero, List.set_cons_succ]
                                    refine wpAnyH_take (i := 5) (v := ?_) rfl (by kernel_rfl) (by kernel_rfl) (by kernel_rfl) (fun _ _ _ h => h) (Or.inl ⟨by kernel_rfl, ?_⟩) (by assumption) ?_
                                    rotate_left 1
                                    · (intro w hSw; (try dsimp only at hSw); go_simp; try with_reducible rfl)
                                    try simp only [Act.put, List.getElem_toArray, List.getElem_cons_succ, List.getElem_cons_zero, List.setIfInBounds_toArray, List.set_cons_zero, List.set_cons_succ]
                                    refine wpAnyH_take (i := 6) (v := ?_) rfl (by kernel_rfl) (by kernel_rfl) (by kernel_rfl) (fun _ _ _ h => h) (Or.inl ⟨by kernel_rfl, ?_⟩) (by assumption) ?_
                                    rotate_left 1
                                    · (intro w hSw; (try dsimp only at hSw); go_simp; try with_reducible rfl)
                                    try simp only [Act.put, List.getElem_toArray, List.getElem_cons_succ, List.getElem_cons_zero, List.setIfInBounds_toArray, List.set_cons_zero, List.set_cons_succ]
                                    refine wpAnyH_ready (rs := [7]) (by kernel_rfl) (by simp) ?_
                                    refine AllReadyH.cons rfl (fun K hK => ?_) AllReadyH.nil
                                    go_simp
                                    refine (lists_any S ⟨kd, fr, tq, te, ix, lt, co, ok, hi, EA, en, ec, si, st, sc, SA, sn, sk⟩ l _ (HP.out.below (Bt (Bt (Bd (Ba (B0 w) (.cells #[.int .i64 kd, .int .i64 fr, .int .i64 tq, .int .i64 te, .int .i64 ix, .int .i64 lt, .int .i64 co, .bool ok, .int .i64 hi, .slice EA en ec, .int .i64 si, .int .i64 st, .int .i64 sc, .slice SA sn sk] 27))) hb1) hb2)).rd (HP.out.below (Bt (Bt (Bd (Ba (B0 w) (.cells #[.int .i64 kd, .int .i64 fr, .int .i64 tq, .int .i64 te, .int .i64 ix, .int .i64 lt, .int .i64 co, .bool ok, .int .i64 hi, .slice EA en ec, .int .i64 si, .int .i64 st, .int .i64 sc, .slice SA sn sk] 27))) hb1) hb2)).lt HP.out.len HIX.out).mono ?_; rintro e w3 ⟨rfl, hb3⟩; rw [HEN.out]; have hx3 := hx2.later hb3
                                    refine hK.out _ _ (hx3.cell) (fun hHeld => ?_)
                                    clear hK K
                                    try simp only [Act.put, List.getElem_toArray, List.getElem_cons_succ, List.getElem_cons_zero, List.setIfInBounds_toArray, List.set_cons_zero, List.set_cons_succ]
                                    refine wpAnyH_take (i := 8) (v := ?_) rfl (by kernel_rfl) (by kernel_rfl) (by kernel_rfl) (fun _ _ _ h => h) (Or.inl ⟨by kernel_rfl, ?_⟩) (by assumption) ?_
                                    rotate_left 1
                                    · (intro w hSw; (try dsimp only at hSw); go_simp; try with_reducible rfl)
                                    try simp only [Act.put, List.getElem_toArray, List.getElem_cons_succ, List.getElem_cons_zero, List.setIfInBounds_toArray, List.set_cons_zero, List.set_cons_succ]
                                    refine wpAnyH_take (i := 9) (v := ?_) rfl (by kernel_rfl) (by kernel_rfl) (by kernel_rfl) (fun _ _ _ h => h) (Or.inl ⟨by kernel_rfl, ?_⟩) (by assumption) ?_
                                    rotate_left 1
                                    · (intro w hSw; (try dsimp only at hSw); go_simp; try with_reducible rfl)
                                    try simp only [Act.put, List.getElem_toArray, List.getElem_cons_succ, List.getElem_cons_zero, List.setIfInBounds_toArray, List.set_cons_zero, List.set_cons_succ]
                                    refine wpAnyH_take (i := 10) (v := ?_) rfl (by kernel_rfl) (by kernel_rfl) (by kernel_rfl) (fun _ _ _ h => h) (Or.inl ⟨by kernel_rfl, ?_⟩) (by assumption) ?_
                                    rotate_left 1
                                    · (intro w hSw; (try dsimp only at hSw); go_simp; try with_reducible rfl)
                                    try simp only [Act.put, List.getElem_toArray, List.getElem_cons_succ, List.getElem_cons_zero, List.setIfInBounds_toArray, List.set_cons_zero, List.set_cons_succ]
                                    refine wpAnyH_take (i := 11) (v := ?_) rfl (by kernel_rfl) (by kernel_rfl) (by kernel_rfl) (fun _ _ _ h => h) (Or.inl ⟨by kernel_rfl, ?_⟩) (by assumption) ?_
                                    rotate_left 1
                                    · (intro w hSw; (try dsimp only at hSw); go_simp; try with_reducible rfl)
                                    try simp only [Act.put, List.getElem_toArray, List.getElem_cons_succ, List.getElem_cons_zero, List.setIfInBounds_toArray, List.set_cons_zero, List.set_cons_succ]
                                    refine wpAnyH_take (i := 12) (v := ?_) rfl (by kernel_rfl) (by kernel_rfl) (by kernel_rfl) (fun _ _ _ h => h) (Or.inl ⟨by kernel_rfl, ?_⟩) (by assumption) ?_
                                    rotate_left 1
                                    · (intro w hSw; (try dsimp only at hSw); go_simp; try with_reducible rfl)
                                    try simp only [Act.put, List.getElem_toArray, List.getElem_cons_succ, List.getElem_cons_zero, List.setIfInBounds_toArray, List.set_cons_zero, List.set_cons_succ]
                                    refine wpAnyH_take (i := 13) (v := ?_) rfl (by kernel_rfl) (by kernel_rfl) (by kernel_rfl) (fun _ _ _ h => h) (Or.inl ⟨by kernel_rfl, ?_⟩) (by assumption) ?_
                                    rotate_left 1
                                    · (intro w hSw; (try dsimp only at hSw); go_simp; try with_reducible rfl)
                                    try simp only [Act.put, List.getElem_toArray, List.getElem_cons_succ, List.getElem_cons_zero, List.setIfInBounds_toArray, List.set_cons_zero, List.set_cons_succ]
                                    refine wpAnyH_take (i := 14) (v := ?_) rfl (by kernel_rfl) (by kernel_rfl) (by kernel_rfl) (fun _ _ _ h => h) (Or.inl ⟨by kernel_rfl, ?_⟩) (by assumption) ?_
                                    rotate_left 1
                                    · (intro w hSw; (try dsimp only at hSw); go_simp; try with_reducible rfl)
                                    try simp only [Act.put, List.getElem_toArray, List.getElem_cons_succ, List.getElem_cons_zero, List.setIfInBounds_toArray, List.set_cons_zero, List.set_cons_succ]
                                    refine wpAnyH_take (i := 15) (v := ?_) rfl (by kernel_rfl) (by kernel_rfl) (by kernel_rfl) (fun _ _ _ h => h) (Or.inl ⟨by kernel_rfl, ?_⟩) (by assumption) ?_
                                    rotate_left 1
                                    · (intro w hSw; (try dsimp only at hSw); go_simp; try with_reducible rfl)
                                    try simp only [Act.put, List.getElem_toArray, List.getElem_cons_succ, List.getElem_cons_zero, List.setIfInBounds_toArray, List.set_cons_zero, List.set_cons_succ]
                                    refine wpAnyH_ready (rs := [16]) (by kernel_rfl) (by simp) ?_
                                    refine AllReadyH.cons rfl (fun K hK => ?_) AllReadyH.nil
                                    go_simp
                                    refine (refsnap_any ⟨kd, fr, tq, te, ix, lt, co, ok, hi, EA, en, ec, si, st, sc, SA, sn, sk⟩ hsn _).mono ?_; rintro e w4 ⟨rfl, hb4⟩; rw [HSN.out]; have hx4 := hx3.later hb4
                                    refine hK.out _ _ (hx4.cell) (fun hHeld => ?_)
                                    clear hK K
                                    try simp only [Act.put, List.getElem_toArray, List.getElem_cons_succ, List.getElem_cons_zero, List.setIfInBounds_toArray, List.set_cons_zero, List.set_cons_succ]
                                    refine wpAnyH_take (i := 17) (v := ?_) rfl (by kernel_rfl) (by kernel_rfl) (by kernel_rfl) (fun _ _ _ h => h) (Or.inl ⟨by kernel_rfl, ?_⟩) (by assumption) ?_
                                    rotate_left 1
                                    · (intro w hSw; (try dsimp only at hSw); go_simp; try with_reducible rfl)
                                    try simp only [Act.put, List.getElem_toArray, List.getElem_cons_succ, List.getElem_cons_zero, List.setIfInBounds_toArray, List.set_cons_zero, List.set_cons_succ]
                                    refine wpAnyH_take (i := 18) (v := ?_) rfl (by kernel_rfl) (by kernel_rfl) (by kernel_rfl) (fun _ _ _ h => h) (Or.inl ⟨by kernel_rfl, ?_⟩) (by assumption) ?_
                                    rotate_left 1
                                    · (intro w hSw; (try dsimp only at hSw); go_simp; try with_reducible rfl)
                                    try simp only [Act.put, List.getElem_toArray, List.getElem_cons_succ, List.getElem_cons_zero, List.setIfInBounds_toArray, List.set_cons_zero, List.set_cons_succ]
                                    refine wpAnyH_take (i := 19) (v := ?_) rfl (by kernel_rfl) (by kernel_rfl) (by kernel_rfl) (fun _ _ _ h => h) (Or.inl ⟨by kernel_rfl, ?_⟩) (by assumption) ?_
                                    rotate_left 1
                                    · (intro w hSw; (try dsimp only at hSw); go_simp; try with_reducible rfl)
                                    try simp only [Act.put, List.getElem_toArray, List.getElem_cons_succ, List.getElem_cons_zero, List.setIfInBounds_toArray, List.set_cons_zero, List.set_cons_succ]
                                    refine wpAnyH_done (by kernel_rfl) ?_ _
                                    go_wp2_with fail
                                    go_ret
                                    exact ⟨rfl, Bt (Bt (Bt (Bt (Bd (Ba (B0 w) (.cells #[.int .i64 kd, .int .i64 fr, .int .i64 tq, .int .i64 te, .int .i64 ix, .int .i64 lt, .int .i64 co, .bool ok, .int .i64 hi, .slice EA en ec, .int .i64 si, .int .i64 st, .int .i64 sc, .slice SA sn sk] 27))) hb1) hb2) hb3) hb4⟩
                                  · simp only [Po.v, Po.cs]
                                    go_enter Try.func15, Try.ntmps15
                                    go_wp2_with (first | (go_at_call_of 38 te; refine (refnumber_is N0.out _).mono ?_; rintro e w' ⟨rfl, rfl⟩) | (go_at_call_of 38 ix; refine (refnumber_is N1.out _).mono ?_; rintro e w' ⟨rfl, rfl⟩) | (go_at_call_of 38 lt; refine (refnumber_is N2.out _).mono ?_; rintro e w' ⟨rfl, rfl⟩) | (go_at_call_of 38 co; refine (refnumber_is N3.out _).mono ?_; rintro e w' ⟨rfl, rfl⟩) | (go_at_call_of 38 hi; refine (refnumber_is N4.out _).mono ?_; rintro e w' ⟨rfl, rfl⟩))
                                    refine wp_region_held_drew (S := fun w' => (∀ j, w'.cell? ⟨w.heap.size, j, none⟩ = (#[.int .i64 kd, .int .i64 fr, .int .i64 tq, .int .i64 te, .int .i64 ix, .int .i64 lt, .int .i64 co, .bool ok, .int .i64 hi, .slice EA en ec, .int .i64 si, .int .i64 st, .int .i64 sc, .slice SA sn sk] : Array Value)[j]?)) (by kernel_rfl) (HBX.drew.cell) (fun hHeld => ?_)
                                    refine wpAnyH_take (i := 0) (v := ?_) rfl (by kernel_rfl) (by kernel_rfl) (by kernel_rfl) (fun _ _ _ h => h) (Or.inl ⟨by kernel_rfl, ?_⟩) (by assumption) ?_
                                    rotate_left 1
                                    · (intro w hSw; (try dsimp only at hSw); go_simp; try with_reducible rfl)
                                    try simp only [Act.put, List.getElem_toArray, List.getElem_cons_succ, List.getElem_cons_zero, List.setIfInBounds_toArray, List.set_cons_zero, List.set_cons_succ]
                                    refine wpAnyH_take (i := 2) (v := ?_) rfl (by kernel_rfl) (by kernel_rfl) (by kernel_rfl) (fun _ _ _ h => h) (Or.inl ⟨by kernel_rfl, ?_⟩) (by assumption) ?_
                                    rotate_left 1
                                    · (intro w hSw; (try dsimp only at hSw); go_simp; try with_reducible rfl)
                                    try simp only [Act.put, List.getElem_toArray, List.getElem_cons_succ, List.getElem_cons_zero, List.setIfInBounds_toArray, List.set_cons_zero, List.set_cons_succ]
                                    refine wpAnyH_ready (rs := [1]) (by kernel_rfl) (by simp) ?_
                                    refine AllReadyH.cons rfl (fun K hK => ?_) AllReadyH.nil
                                    go_simp
                                    refine (kept_any ⟨kd, fr, tq, te, ix, lt, co, ok, hi, EA, en, ec, si, st, sc, SA, sn, sk⟩ HKD.out _).mono ?_; rintro e w1 ⟨rfl, hb1⟩; rw [← HQ.out]; have hx1 := HBX.drew.later hb1
                                    refine hK.out _ _ (hx1.cell) (fun hHeld => ?_)
                                    clear hK K
                                    try simp only [Act.put, List.getElem_toArray, List.getElem_cons_succ, List.getElem_cons_zero, List.setIfInBounds_toArray, List.set_cons_zero, List.set_cons_succ]
                                    refine wpAnyH_ready (rs := [3]) (by kernel_rfl) (by simp) ?_
                                    refine AllReadyH.cons rfl (fun K hK => ?_) AllReadyH.nil
                                    go_simp
                                    refine (same_any S S q ⟨kd, fr, tq, te, ix, lt, co, ok, hi, EA, en, ec, si, st, sc, SA, sn, sk⟩ lq l dq d _ (HPQ.out.below (Bt (Bd (Ba (B0 w) (.cells #[.int .i64 kd, .int .i64 fr, .int .i64 tq, .int .i64 te, .int .i64 ix, .int .i64 lt, .int .i64 co, .bool ok, .int .i64 hi, .slice EA en ec, .int .i64 si, .int .i64 st, .int .i64 sc, .slice SA sn sk] 27))) hb1)) (HP.out.below (Bt (Bd (Ba (B0 w) (.cells #[.int .i64 kd, .int .i64 fr, .int .i64 tq, .int .i64 te, .int .i64 ix, .int .i64 lt, .int .i64 co, .bool ok, .int .i64 hi, .slice EA en ec, .int .i64 si, .int .i64 st, .int .i64 sc, .slice SA sn sk] 27))) hb1))).mono ?_; rintro e w2 ⟨rfl, hb2⟩; rw [HSM.out]; have hx2 := hx1.later hb2
                                    refine hK.out _ _ (hx2.cell) (fun hHeld => ?_)
                                    clear hK K
                                    try simp only [Act.put, List.getElem_toArray, List.getElem_cons_succ, List.getElem_cons_zero, List.setIfInBounds_toArray, List.set_cons_zero, List.set_cons_succ]
                                    refine wpAnyH_take (i := 4) (v := ?_) rfl (by kernel_rfl) (by kernel_rfl) (by kernel_rfl) (fun _ _ _ h => h) (Or.inl ⟨by kernel_rfl, ?_⟩) (by assumption) ?_
                                    rotate_left 1
                                    · (intro w hSw; (try dsimp only at hSw); go_simp; try with_reducible rfl)
                                    try simp only [Act.put, List.getElem_toArray, List.getElem_cons_succ, List.getElem_cons_zero, List.setIfInBounds_toArray, List.set_cons_zero, List.set_cons_succ]
                                    refine wpAnyH_take (i := 5) (v := ?_) rfl (by kernel_rfl) (by kernel_rfl) (by kernel_rfl) (fun _ _ _ h => h) (Or.inl ⟨by kernel_rfl, ?_⟩) (by assumption) ?_
                                    rotate_left 1
                                    · (intro w hSw; (try dsimp only at hSw); go_simp; try with_reducible rfl)
                                    try simp only [Act.put, List.getElem_toArray, List.getElem_cons_succ, List.getElem_cons_zero, List.setIfInBounds_toArray, List.set_cons_zero, List.set_cons_succ]
                                    refine wpAnyH_take (i := 6) (v := ?_) rfl (by kernel_rfl) (by kernel_rfl) (by kernel_rfl) (fun _ _ _ h => h) (Or.inl ⟨by kernel_rfl, ?_⟩) (by assumption) ?_
                                    rotate_left 1
                                    · (intro w hSw; (try dsimp only at hSw); go_simp; try with_reducible rfl)
                                    try simp only [Act.put, List.getElem_toArray, List.getElem_cons_succ, List.getElem_cons_zero, List.setIfInBounds_toArray, List.set_cons_zero, List.set_cons_succ]
                                    refine wpAnyH_ready (rs := [7]) (by kernel_rfl) (by simp) ?_
                                    refine AllReadyH.cons rfl (fun K hK => ?_) AllReadyH.nil
                                    go_simp
                                    refine (lists_any S ⟨kd, fr, tq, te, ix, lt, co, ok, hi, EA, en, ec, si, st, sc, SA, sn, sk⟩ l _ (HP.out.below (Bt (Bt (Bd (Ba (B0 w) (.cells #[.int .i64 kd, .int .i64 fr, .int .i64 tq, .int .i64 te, .int .i64 ix, .int .i64 lt, .int .i64 co, .bool ok, .int .i64 hi, .slice EA en ec, .int .i64 si, .int .i64 st, .int .i64 sc, .slice SA sn sk] 27))) hb1) hb2)).rd (HP.out.below (Bt (Bt (Bd (Ba (B0 w) (.cells #[.int .i64 kd, .int .i64 fr, .int .i64 tq, .int .i64 te, .int .i64 ix, .int .i64 lt, .int .i64 co, .bool ok, .int .i64 hi, .slice EA en ec, .int .i64 si, .int .i64 st, .int .i64 sc, .slice SA sn sk] 27))) hb1) hb2)).lt HP.out.len HIX.out).mono ?_; rintro e w3 ⟨rfl, hb3⟩; rw [HEN.out]; have hx3 := hx2.later hb3
                                    refine hK.out _ _ (hx3.cell) (fun hHeld => ?_)
                                    clear hK K
                                    try simp only [Act.put, List.getElem_toArray, List.getElem_cons_succ, List.getElem_cons_zero, List.setIfInBounds_toArray, List.set_cons_zero, List.set_cons_succ]
                                    refine wpAnyH_take (i := 8) (v := ?_) rfl (by kernel_rfl) (by kernel_rfl) (by kernel_rfl) (fun _ _ _ h => h) (Or.inl ⟨by kernel_rfl, ?_⟩) (by assumption) ?_
                                    rotate_left 1
                                    · (intro w hSw; (try dsimp only at hSw); go_simp; try with_reducible rfl)
                                    try simp only [Act.put, List.getElem_toArray, List.getElem_cons_succ, List.getElem_cons_zero, List.setIfInBounds_toArray, List.set_cons_zero, List.set_cons_succ]
                                    refine wpAnyH_take (i := 9) (v := ?_) rfl (by kernel_rfl) (by kernel_rfl) (by kernel_rfl) (fun _ _ _ h => h) (Or.inl ⟨by kernel_rfl, ?_⟩) (by assumption) ?_
                                    rotate_left 1
                                    · (intro w hSw; (try dsimp only at hSw); go_simp; try with_reducible rfl)
                                    try simp only [Act.put, List.getElem_toArray, List.getElem_cons_succ, List.getElem_cons_zero, List.setIfInBounds_toArray, List.set_cons_zero, List.set_cons_succ]
                                    refine wpAnyH_take (i := 10) (v := ?_) rfl (by kernel_rfl) (by kernel_rfl) (by kernel_rfl) (fun _ _ _ h => h) (Or.inl ⟨by kernel_rfl, ?_⟩) (by assumption) ?_
                                    rotate_left 1
                                    · (intro w hSw; (try dsimp only at hSw); go_simp; try with_reducible rfl)
                                    try simp only [Act.put, List.getElem_toArray, List.getElem_cons_succ, List.getElem_cons_zero, List.setIfInBounds_toArray, List.set_cons_zero, List.set_cons_succ]
                                    refine wpAnyH_take (i := 11) (v := ?_) rfl (by kernel_rfl) (by kernel_rfl) (by kernel_rfl) (fun _ _ _ h => h) (Or.inl ⟨by kernel_rfl, ?_⟩) (by assumption) ?_
                                    rotate_left 1
                                    · (intro w hSw; (try dsimp only at hSw); go_simp; try with_reducible rfl)
                                    try simp only [Act.put, List.getElem_toArray, List.getElem_cons_succ, List.getElem_cons_zero, List.setIfInBounds_toArray, List.set_cons_zero, List.set_cons_succ]
                                    refine wpAnyH_take (i := 12) (v := ?_) rfl (by kernel_rfl) (by kernel_rfl) (by kernel_rfl) (fun _ _ _ h => h) (Or.inl ⟨by kernel_rfl, ?_⟩) (by assumption) ?_
                                    rotate_left 1
                                    · (intro w hSw; (try dsimp only at hSw); go_simp; try with_reducible rfl)
                                    try simp only [Act.put, List.getElem_toArray, List.getElem_cons_succ, List.getElem_cons_zero, List.setIfInBounds_toArray, List.set_cons_zero, List.set_cons_succ]
                                    refine wpAnyH_take (i := 13) (v := ?_) rfl (by kernel_rfl) (by kernel_rfl) (by kernel_rfl) (fun _ _ _ h => h) (Or.inl ⟨by kernel_rfl, ?_⟩) (by assumption) ?_
                                    rotate_left 1
                                    · (intro w hSw; (try dsimp only at hSw); go_simp; try with_reducible rfl)
                                    try simp only [Act.put, List.getElem_toArray, List.getElem_cons_succ, List.getElem_cons_zero, List.setIfInBounds_toArray, List.set_cons_zero, List.set_cons_succ]
                                    refine wpAnyH_take (i := 14) (v := ?_) rfl (by kernel_rfl) (by kernel_rfl) (by kernel_rfl) (fun _ _ _ h => h) (Or.inl ⟨by kernel_rfl, ?_⟩) (by assumption) ?_
                                    rotate_left 1
                                    · (intro w hSw; (try dsimp only at hSw); go_simp; try with_reducible rfl)
                                    try simp only [Act.put, List.getElem_toArray, List.getElem_cons_succ, List.getElem_cons_zero, List.setIfInBounds_toArray, List.set_cons_zero, List.set_cons_succ]
                                    refine wpAnyH_take (i := 15) (v := ?_) rfl (by kernel_rfl) (by kernel_rfl) (by kernel_rfl) (fun _ _ _ h => h) (Or.inl ⟨by kernel_rfl, ?_⟩) (by assumption) ?_
                                    rotate_left 1
                                    · (intro w hSw; (try dsimp only at hSw); go_simp; try with_reducible rfl)
                                    try simp only [Act.put, List.getElem_toArray, List.getElem_cons_succ, List.getElem_cons_zero, List.setIfInBounds_toArray, List.set_cons_zero, List.set_cons_succ]
                                    refine wpAnyH_ready (rs := [16]) (by kernel_rfl) (by simp) ?_
                                    refine AllReadyH.cons rfl (fun K hK => ?_) AllReadyH.nil
                                    go_simp
                                    refine (refsnap_any ⟨kd, fr, tq, te, ix, lt, co, ok, hi, EA, en, ec, si, st, sc, SA, sn, sk⟩ hsn _).mono ?_; rintro e w4 ⟨rfl, hb4⟩; rw [HSN.out]; have hx4 := hx3.later hb4
                                    refine hK.out _ _ (hx4.cell) (fun hHeld => ?_)
                                    clear hK K
                                    try simp only [Act.put, List.getElem_toArray, List.getElem_cons_succ, List.getElem_cons_zero, List.setIfInBounds_toArray, List.set_cons_zero, List.set_cons_succ]
                                    refine wpAnyH_take (i := 17) (v := ?_) rfl (by kernel_rfl) (by kernel_rfl) (by kernel_rfl) (fun _ _ _ h => h) (Or.inl ⟨by kernel_rfl, ?_⟩) (by assumption) ?_
                                    rotate_left 1
                                    · (intro w hSw; (try dsimp only at hSw); go_simp; try with_reducible rfl)
                                    try simp only [Act.put, List.getElem_toArray, List.getElem_cons_succ, List.getElem_cons_zero, List.setIfInBounds_toArray, List.set_cons_zero, List.set_cons_succ]
                                    refine wpAnyH_take (i := 18) (v := ?_) rfl (by kernel_rfl) (by kernel_rfl) (by kernel_rfl) (fun _ _ _ h => h) (Or.inl ⟨by kernel_rfl, ?_⟩) (by assumption) ?_
                                    rotate_left 1
                                    · (intro w hSw; (try dsimp only at hSw); go_simp; try with_reducible rfl)
                                    try simp only [Act.put, List.getElem_toArray, List.getElem_cons_succ, List.getElem_cons_zero, List.setIfInBounds_toArray, List.set_cons_zero, List.set_cons_succ]
                                    refine wpAnyH_take (i := 19) (v := ?_) rfl (by kernel_rfl) (by kernel_rfl) (by kernel_rfl) (fun _ _ _ h => h) (Or.inl ⟨by kernel_rfl, ?_⟩) (by assumption) ?_
                                    rotate_left 1
                                    · (intro w hSw; (try dsimp only at hSw); go_simp; try with_reducible rfl)
                                    try simp only [Act.put, List.getElem_toArray, List.getElem_cons_succ, List.getElem_cons_zero, List.setIfInBounds_toArray, List.set_cons_zero, List.set_cons_succ]
                                    refine wpAnyH_done (by kernel_rfl) ?_ _
                                    go_wp2_with fail
                                    go_ret
                                    exact ⟨rfl, Bt (Bt (Bt (Bt (Bd (Ba (B0 w) (.cells #[.int .i64 kd, .int .i64 fr, .int .i64 tq, .int .i64 te, .int .i64 ix, .int .i64 lt, .int .i64 co, .bool ok, .int .i64 hi, .slice EA en ec, .int .i64 si, .int .i64 st, .int .i64 sc, .slice SA sn sk] 27))) hb1) hb2) hb3) hb4⟩
              · rw [show chkE ⟨kd, fr, tq, te, ix, lt, co, ok, hi, EA, en, ec, si, st, sc, SA, sn, sk⟩ (l.map En.ed) = 2 from no_srv (by simp [srvB, show fr = tq from by simpa using a6])]
                simp only [Po.v, Po.cs]
                go_enter Try.func15, Try.ntmps15
                go_wp2_with fail
                go_ret
                exact ⟨rfl, Ba (B0 w) _⟩

set_option maxHeartbeats 4000000 in
theorem postChecks_at (W : World) (S : Nat → Prop) (p : Po) (l : List En) (d : List Int) (hp : PoAt W S p l d) :
    Calls Try.prog 3 #[p.v] W fun e w' => e = .returned (.bool true) ∧ Below W.heap.size W w' := by
  have HP := Lib.hid hp
  clear hp
  obtain ⟨kd, fr, tq, te, ix, lt, co, ok, hi, EA, en, ec, si, st, sc, SA, sn, sk⟩ := p
  simp only [Po.v, Po.cs]
  have HBX := Blk.new W 27 #[.int .i64 kd, .int .i64 fr, .int .i64 tq, .int .i64 te, .int .i64 ix, .int .i64 lt, .int .i64 co, .bool ok, .int .i64 hi, .slice EA en ec, .int .i64 si, .int .i64 st, .int .i64 sc, .slice SA sn sk]
  obtain ⟨ce, hce⟩ : ∃ ce, ce = chkE ⟨kd, fr, tq, te, ix, lt, co, ok, hi, EA, en, ec, si, st, sc, SA, sn, sk⟩ (l.map En.ed) := ⟨_, rfl⟩
  have HCE := Lib.hid hce
  have hee : (ce == ce) = true := by simp
  clear hce
  go_enter Try.func3, Try.ntmps3
  go_wp2_with fail
  refine wp_region_held_drew (S := fun w' => (∀ j, w'.cell? ⟨W.heap.size, j, none⟩ = (#[.int .i64 kd, .int .i64 fr, .int .i64 tq, .int .i64 te, .int .i64 ix, .int .i64 lt, .int .i64 co, .bool ok, .int .i64 hi, .slice EA en ec, .int .i64 si, .int .i64 st, .int .i64 sc, .slice SA sn sk] : Array Value)[j]?)) (by kernel_rfl) (HBX.drew.cell) (fun hHeld => ?_)
  refine wpAnyH_take (i := 0) (v := ?_) rfl (by kernel_rfl) (by kernel_rfl) (by kernel_rfl) (fun _ _ _ h => h) (Or.inl ⟨by kernel_rfl, ?_⟩) (by assumption) ?_
  rotate_left 1
  · (intro w hSw; (try dsimp only at hSw); go_simp; try with_reducible rfl)
  try simp only [Act.put, List.getElem_toArray, List.getElem_cons_succ, List.getElem_cons_zero, List.setIfInBounds_toArray, List.set_cons_zero, List.set_cons_succ]
  refine wpAnyH_take (i := 2) (v := ?_) rfl (by kernel_rfl) (by kernel_rfl) (by kernel_rfl) (fun _ _ _ h => h) (Or.inl ⟨by kernel_rfl, ?_⟩) (by assumption) ?_
  rotate_left 1
  · (intro w hSw; (try dsimp only at hSw); go_simp; try with_reducible rfl)
  try simp only [Act.put, List.getElem_toArray, List.getElem_cons_succ, List.getElem_cons_zero, List.setIfInBounds_toArray, List.set_cons_zero, List.set_cons_succ]
  refine wpAnyH_ready (rs := [1]) (by kernel_rfl) (by simp) ?_
  refine AllReadyH.cons rfl (fun K hK => ?_) AllReadyH.nil
  go_simp
  refine (check_any S ⟨kd, fr, tq, te, ix, lt, co, ok, hi, EA, en, ec, si, st, sc, SA, sn, sk⟩ l _ (HP.out.below (Bd (Ba (B0 W) (.cells #[.int .i64 kd, .int .i64 fr, .int .i64 tq, .int .i64 te, .int .i64 ix, .int .i64 lt, .int .i64 co, .bool ok, .int .i64 hi, .slice EA en ec, .int .i64 si, .int .i64 st, .int .i64 sc, .slice SA sn sk] 27)))).rd (HP.out.below (Bd (Ba (B0 W) (.cells #[.int .i64 kd, .int .i64 fr, .int .i64 tq, .int .i64 te, .int .i64 ix, .int .i64 lt, .int .i64 co, .bool ok, .int .i64 hi, .slice EA en ec, .int .i64 si, .int .i64 st, .int .i64 sc, .slice SA sn sk] 27)))).lt HP.out.len HP.out.most HP.out.dmost).mono ?_; rintro e w1 ⟨rfl, hb1⟩; have hx1 := HBX.drew.later hb1; rw [← HCE.out]
  refine hK.out _ _ (hx1.cell) (fun hHeld => ?_)
  clear hK K
  try simp only [Act.put, List.getElem_toArray, List.getElem_cons_succ, List.getElem_cons_zero, List.setIfInBounds_toArray, List.set_cons_zero, List.set_cons_succ]
  refine wpAnyH_ready (rs := [3]) (by kernel_rfl) (by simp) ?_
  refine AllReadyH.cons rfl (fun K hK => ?_) AllReadyH.nil
  go_simp
  refine (refcheck_any S ⟨kd, fr, tq, te, ix, lt, co, ok, hi, EA, en, ec, si, st, sc, SA, sn, sk⟩ l d _ (HP.out.below (Bt (Bd (Ba (B0 W) (.cells #[.int .i64 kd, .int .i64 fr, .int .i64 tq, .int .i64 te, .int .i64 ix, .int .i64 lt, .int .i64 co, .bool ok, .int .i64 hi, .slice EA en ec, .int .i64 si, .int .i64 st, .int .i64 sc, .slice SA sn sk] 27))) hb1))).mono ?_; rintro e w2 ⟨rfl, hb2⟩; have hx2 := hx1.later hb2; rw [← HCE.out]
  refine hK.out _ _ (hx2.cell) (fun hHeld => ?_)
  clear hK K
  try simp only [Act.put, List.getElem_toArray, List.getElem_cons_succ, List.getElem_cons_zero, List.setIfInBounds_toArray, List.set_cons_zero, List.set_cons_succ]
  refine wpAnyH_take (i := 4) (v := ?_) rfl (by kernel_rfl) (by kernel_rfl) (by kernel_rfl) (fun _ _ _ h => h) (Or.inl ⟨by kernel_rfl, ?_⟩) (by assumption) ?_
  rotate_left 1
  · (intro w hSw; (try dsimp only at hSw); go_simp; try with_reducible rfl)
  try simp only [Act.put, List.getElem_toArray, List.getElem_cons_succ, List.getElem_cons_zero, List.setIfInBounds_toArray, List.set_cons_zero, List.set_cons_succ]
  refine wpAnyH_take (i := 5) (v := ?_) rfl (by kernel_rfl) (by kernel_rfl) (by kernel_rfl) (fun _ _ _ h => h) (Or.inl ⟨by kernel_rfl, ?_⟩) (by assumption) ?_
  rotate_left 1
  · (intro w hSw; (try dsimp only at hSw); go_simp; try with_reducible rfl)
  try simp only [Act.put, List.getElem_toArray, List.getElem_cons_succ, List.getElem_cons_zero, List.setIfInBounds_toArray, List.set_cons_zero, List.set_cons_succ]
  refine wpAnyH_done (by kernel_rfl) ?_ _
  go_wp2_with fail
  go_ret
  exact ⟨rfl, Bt (Bt (Bd (Ba (B0 W) _)) hb1) hb2⟩
theorem PoRd.at_ {W : World} {p : Po} {l : List En} {d : List Int} (h : PoRd W p l d) : PoAt W (fun i => i < W.heap.size) p l d :=
  ⟨fun i hi => hi, h.ents.len, h.ents.most, h.ents.rd, fun x hx => (h.ents.each x hx).1, h.dlen, h.dmost, h.data⟩
theorem postChecks_walk {H : Type} {enc : TypeId × Value → H} (W : World) {base : Nat} {sp : Nat → Bool} {held : Bool} {v : Value} {d : DataW H} {pl : List MemPlace} (hv : Value.okWide Try.prog W .any base 27 v) (ht : DataW.Trod enc Try.prog W 0 sp held 27 v d pl)
    (hz : ∀ n ∈ d.weights Try.prog 27, n ≤ reachBytes) :
    Calls Try.prog 3 #[v] W fun e w' => e = .returned (.bool true) ∧ Below W.heap.size W w' := by
  obtain ⟨p, l, bs, rfl, hp⟩ := open_post hv ht hz
  exact postChecks_at W _ p l bs hp.at_
end Go.Proofs.Ytnphnaggamfoiaa
