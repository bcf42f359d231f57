/- What may be has its numbers in their places. -/
import Derived.Test.YtnphnaggamfoiaaS3
namespace Go.Proofs.Ytnphnaggamfoiaa
open Go.RowKit
set_option maxRecDepth 20000
set_option linter.unusedVariables false
set_option linter.unusedSimpArgs false

def termAt (lt : Int) (l : List Ed) : Nat → Int
  | 0 => lt
  | k + 1 => (l.getD k ⟨0, 0, 0, []⟩).te
theorem ents_term (te : Int) : ∀ (l : List Ed) (base lt : Int), entsB te base lt l = true → ∀ k (hk : k < l.length), l[k].ix = base + k ∧ termAt lt l k ≤ l[k].te ∧ l[k].te ≤ te ∧ termAt lt l (k + 1) = l[k].te
  | [], _, _, _, k, hk => by simp at hk
  | e :: l, base, lt, h, k, hk => by
    simp only [entsB, entB, Bool.and_eq_true, beq_iff_eq, decide_eq_true_eq, wiB_iff] at h
    obtain ⟨⟨⟨⟨⟨h1, h2⟩, h3⟩, h4⟩, h5⟩, h6⟩ := h
    cases k with
    | zero => simp only [List.getElem_cons_zero, termAt]; exact ⟨by omega, by omega, by omega, by simp⟩
    | succ k =>
      have ih := ents_term te l (base + 1) e.te h6 k (by simpa using hk)
      simp only [List.getElem_cons_succ]
      refine ⟨by omega, ?_, by omega, ?_⟩
      · cases k with
        | zero => simpa [termAt] using ih.2.1
        | succ k => simpa [termAt] using ih.2.1
      · simpa [termAt] using ih.2.2.2

theorem min_two (w : World) (a b m : Int) (h : m = min a b) : Sem.run Try.prog (Builtin.min_ #[3, 3] 3 #[.int .i64 a, .int .i64 b]) w = .ok (.int .i64 m) w := by
  subst h
  by_cases hab : b < a
  · rw [Int.min_eq_right (by omega)]
    simp [go_sem, Builtin.min_, Builtin.min2]; omega
  · rw [Int.min_eq_left (by omega)]
    simp [go_sem, Builtin.min_, Builtin.min2]; omega
theorem max_two (w : World) (a b m : Int) (h : m = max a b) : Sem.run Try.prog (Builtin.max_ #[3, 3] 3 #[.int .i64 a, .int .i64 b]) w = .ok (.int .i64 m) w := by
  subst h
  by_cases hab : a < b
  · rw [Int.max_eq_right (by omega)]
    simp [go_sem, Builtin.max_, Builtin.max2]; omega
  · rw [Int.max_eq_left (by omega)]
    simp [go_sem, Builtin.max_, Builtin.max2]; omega
set_option maxHeartbeats 4000000 in
theorem postRight_at (W : World) (S : Nat → Prop) (P : Po) (l : List En) (d : List Int) (hp : PoAt W S P l d) : Calls Try.prog 12 #[P.v] W (TrueB W) := by
  obtain ⟨kd, fr, tq, te, ix, lt, co, ok, hi, EA, en, ec, si, st, sc, SA, sn, sk⟩ := P
  cases hc : chkB ⟨kd, fr, tq, te, ix, lt, co, ok, hi, EA, en, ec, si, st, sc, SA, sn, sk⟩ (l.map En.ed)
  · have HC := Lib.hid hc
    have HP0 := Lib.hid hp
    clear hc hp
    go_enter Try.func12, Try.ntmps12
    go_wp2_with fail
    obtain ⟨wg, hwg⟩ : ∃ u, u = W.alloc (.cells (Po.cs ⟨kd, fr, tq, te, ix, lt, co, ok, hi, EA, en, ec, si, st, sc, SA, sn, sk⟩) 27) := ⟨_, rfl⟩
    have hk : Below W.heap.size W wg := by rw [hwg]; exact Ba (B0 W) _
    have HP := Lib.hid (HP0.out.below hk)
    have HB := Lib.hid hk
    rw [← hwg]
    clear hwg hk
    refine (check_any _ _ l wg HP.out.rd HP.out.lt HP.out.len HP.out.most HP.out.dmost).mono ?_
    rw [chkE_no HC.out]
    rintro e w2 ⟨rfl, hk⟩
    replace HB := Lib.hid (Bt HB.out hk)
    clear hk
    go_wp2_with fail
    refine (awake_any w2).mono ?_
    rintro e w4 ⟨rfl, hk⟩
    replace HB := Lib.hid (Bt HB.out hk)
    clear hk
    go_wp2_with fail
    go_ret
    exact ⟨rfl, HB.out⟩
  · have HC := Lib.hid hc
    have HP0 := Lib.hid hp
    have hm := may_of hc
    have HM := Lib.hid hm
    have HN3 := Lib.hid (show kd ≠ 3 → en = 0 from hm.en0)
    have HE := Lib.hid (show ∀ k (hk : k < l.length), l[k].ix = ix + 1 + k ∧ termAt lt (l.map En.ed) k ≤ l[k].te ∧ l[k].te ≤ te ∧ termAt lt (l.map En.ed) (k + 1) = l[k].te from fun k hk => by
      have := ents_term te (l.map En.ed) (ix + 1) lt hm.ents k (by simpa using hk)
      simpa [En.ed] using this)
    have hkd : 1 ≤ kd ∧ kd ≤ 6 := hm.kd
    have hfr : 1 ≤ fr ∧ fr ≤ 5 := hm.fr
    have htq : 1 ≤ tq ∧ tq ≤ 5 := hm.tq
    have hne : fr ≠ tq := hm.ne
    have hte : 0 ≤ te ∧ te ≤ 9007199254740991 := hm.te
    have hix : 0 ≤ ix ∧ ix ≤ 9007199254740991 := hm.ix
    have hen : en ≤ 8 := by have := hm.most; have h2 := hp.len; rw [List.length_map] at this; simp only at h2; omega
    have hsn := hm.snap0
    simp only at hsn
    have hok : ok = true → kd = 2 ∨ kd = 4 := by
      intro ho
      have hz := hm.zero.2.1
      subst ho
      unfold Po.bare at hz
      by_cases k1 : kd = 1
      · simp [k1] at hz
      · by_cases k2 : kd = 2
        · exact .inl k2
        · by_cases k3 : kd = 3
          · simp [k3] at hz
          · by_cases k4 : kd = 4
            · exact .inr k4
            · by_cases k5 : kd = 5
              · simp [k5] at hz
              · simp [k1, k2, k3, k4, k5] at hz
    have HOK := Lib.hid hok
    have HSN := Lib.hid hsn
    obtain ⟨kd1, kd2⟩ := hkd
    obtain ⟨fr1, fr2⟩ := hfr
    obtain ⟨tq1, tq2⟩ := htq
    obtain ⟨te1, te2⟩ := hte
    obtain ⟨ix1, ix2⟩ := hix
    clear hc hp hm hok hsn
    go_enter Try.func12, Try.ntmps12
    go_wp2_with fail
    obtain ⟨wg, hwg⟩ : ∃ u, u = W.alloc (.cells (Po.cs ⟨kd, fr, tq, te, ix, lt, co, ok, hi, EA, en, ec, si, st, sc, SA, sn, sk⟩) 27) := ⟨_, rfl⟩
    have HG := Lib.hid (show Blk wg W.heap.size 27 (Po.cs ⟨kd, fr, tq, te, ix, lt, co, ok, hi, EA, en, ec, si, st, sc, SA, sn, sk⟩) by rw [hwg]; exact Blk.new _ _ _)
    have hk : Below W.heap.size W wg := by rw [hwg]; exact Ba (B0 W) _
    have HP := Lib.hid (HP0.out.below hk)
    have HB := Lib.hid hk
    rw [← hwg]
    clear hwg hk
    refine (check_any _ _ l wg HP.out.rd HP.out.lt HP.out.len HP.out.most HP.out.dmost).mono ?_
    rw [chkE_yes HC.out]
    rintro e w2 ⟨rfl, hk⟩
    replace HP := Lib.hid (HP.out.below hk)
    replace HG := Lib.hid (HG.out.later hk)
    replace HB := Lib.hid (Bt HB.out hk)
    clear hk
    obtain ⟨x0, x1, x2, x3, x4, x5, x6, x7, x8, x9, x10, x11, x12, x13⟩ := blk14 HG.out
    have hen8 : (en : Int) ≤ 8 := by omega
    obtain ⟨mn, hmn⟩ : ∃ mn, mn = min fr tq := ⟨_, rfl⟩
    obtain ⟨mx, hmx⟩ : ∃ mx, mx = max fr tq := ⟨_, rfl⟩
    have hmin : ∀ w, Sem.run Try.prog (Builtin.min_ #[3, 3] 3 #[.int .i64 fr, .int .i64 tq]) w = .ok (.int .i64 mn) w := fun w => min_two w fr tq mn hmn
    have hmax : ∀ w, Sem.run Try.prog (Builtin.max_ #[3, 3] 3 #[.int .i64 fr, .int .i64 tq]) w = .ok (.int .i64 mx) w := fun w => max_two w fr tq mx hmx
    have hmn1 : 1 ≤ mn := by omega
    have hmx1 : mx ≤ 5 := by omega
    have hq : (fr == tq) = false := by simpa using hne
    have t1 : decide (mn < 1) = false := decide_eq_false (by omega)
    have t2 : decide (5 < mx) = false := decide_eq_false (by omega)
    have t3 : decide ((8 : Int) < (en : Int)) = false := decide_eq_false (by omega)
    have t4 : decide (te < 0) = false := decide_eq_false (by omega)
    have t5 : decide (9007199254740991 < te) = false := decide_eq_false (by omega)
    have t6 : decide (kd < 1) = false := decide_eq_false (by omega)
    have t7 : decide (6 < kd) = false := decide_eq_false (by omega)
    clear hmn hmx
    go_wp2_with fail
    go_loopw [3, 4] (fun t i wr => ∃ k : Nat, k ≤ en ∧ i = .int .i64 k ∧ t = .int .i64 (termAt lt (l.map En.ed) k) ∧ Below w2.heap.size w2 wr) (fun _ i _ => en - (intOf i).toNat)
    case atStart => exact ⟨0, Nat.zero_le _, rfl, rfl, Below.refl _ _⟩
    case round =>
      obtain ⟨k, hk, rfl, rfl, hb⟩ := hrel
      obtain ⟨wv, rfl⟩ : ∃ wv, wv = wr := ⟨_, rfl⟩
      have HBV := Lib.hid hb
      have HGV := Lib.hid (HG.out.later hb)
      clear hb x0 x1 x2 x3 x4 x5 x6 x7 x8 x9 x10 x11 x12 x13
      obtain ⟨x0, x1, x2, x3, x4, x5, x6, x7, x8, x9, x10, x11, x12, x13⟩ := blk14 HGV.out
      obtain ⟨tm, htm⟩ : ∃ tm, tm = termAt lt (l.map En.ed) k := ⟨_, rfl⟩
      rw [← htm]
      by_cases hlt : k < en
      · have hi1 : (k : Int) < (en : Int) := by omega
        have hk0 : (0 : Int) ≤ (k : Int) := by omega
        have hk3 : kd = 3 := by
          have := HN3.out
          omega
        have hle := HP.out.len
        simp only at hle
        have hkl : k < l.length := by omega
        obtain ⟨hE1, hE2, hE3, hE4⟩ := HE.out k hkl
        rw [← htm] at hE2
        obtain ⟨g, og, hA, hg, hc⟩ := rd_ents (HP.out.rd.below HBV.out HP.out.lt) HP.out.len hlt
        subst hA
        obtain ⟨xx, hxx⟩ : ∃ xx, xx = l[k] := ⟨_, rfl⟩
        rw [← hxx] at hc hE1 hE2 hE3 hE4
        obtain ⟨xte, xix, xki, xA, xc, xbs⟩ := xx
        simp only at hE1 hE2 hE3 hE4
        have d0 := hc 0 _ (by omega) rfl
        have d1 := hc 1 _ (by omega) rfl
        simp only [Nat.add_zero] at d0
        rw [show xix = ix + 1 + (k : Int) from hE1] at d1
        have hk8 : (k : Int) < 8 := by omega
        have hw1 : IntKind.i64.wrap (ix + 1) = ix + 1 := IntWalk.i64_in _ ⟨by omega, by omega⟩
        have hw2 : IntKind.i64.wrap (ix + 1 + (k : Int)) = ix + 1 + (k : Int) := IntWalk.i64_in _ ⟨by omega, by omega⟩
        have hd1 : decide (xte < tm) = false := decide_eq_false (by have : tm ≤ xte := hE2; omega)
        have hd2 : decide (te < xte) = false := decide_eq_false (by have : xte ≤ te := hE3; omega)
        have HE4 := Lib.hid hE4
        have hte3 : xte ≤ te := hE3
        have htm2 : tm ≤ xte := hE2
        subst hk3
        have HTM := Lib.hid htm
        clear hc hE1 hE2 hE3 hE4 hxx hle htm
        go_wp2
        go_quiet (fail)
        go_wp2
        go_roundw
        case rel => exact ⟨k + 1, by omega, by go_num, by rw [HE4.out], Bt HBV.out (BdN (B0 _) _)⟩
        case measure => simp [intOf]; omega
      · have HTM := Lib.hid htm
        clear htm
        rcases HSN.out with ⟨k5, s1, _⟩ | ⟨k5, s1, _⟩
        · have hok : ok = false := by
            cases hb : ok
            · rfl
            · have := HOK.out hb; omega
          subst k5 hok
          have hsi0 : (0 : Int) < si := by omega
          go_wp2_with fail
          refine (awake_any wv).mono ?_
          rintro e w4 ⟨rfl, hk⟩
          have HB4 := Lib.hid (Bt (Bt HB.out HBV.out) hk)
          clear hk
          go_wp2_with fail
          go_ret
          exact ⟨rfl, HB4.out⟩
        · have hsi : (si : Int) = 0 := s1
          subst hsi
          have q5 : (kd == 5) = false := by simpa using k5
          by_cases k2 : kd = 2
          · subst k2
            go_wp2_with fail
            refine (awake_any wv).mono ?_
            rintro e w4 ⟨rfl, hk⟩
            have HB4 := Lib.hid (Bt (Bt HB.out HBV.out) hk)
            clear hk
            go_wp2_with fail
            go_ret
            exact ⟨rfl, HB4.out⟩
          · by_cases k4 : kd = 4
            · subst k4
              go_wp2_with fail
              refine (awake_any wv).mono ?_
              rintro e w4 ⟨rfl, hk⟩
              have HB4 := Lib.hid (Bt (Bt HB.out HBV.out) hk)
              clear hk
              go_wp2_with fail
              go_ret
              exact ⟨rfl, HB4.out⟩
            · have hok : ok = false := by
                cases hb : ok
                · rfl
                · have := HOK.out hb; omega
              have q2 : (kd == 2) = false := by simpa using k2
              have q4 : (kd == 4) = false := by simpa using k4
              subst hok
              go_wp2_with fail
              refine (awake_any wv).mono ?_
              rintro e w4 ⟨rfl, hk⟩
              have HB4 := Lib.hid (Bt (Bt HB.out HBV.out) hk)
              clear hk
              go_wp2_with fail
              go_ret
              exact ⟨rfl, HB4.out⟩
theorem postRight_walk {H : Type} {enc : TypeId × Value → H} (W : World) {base : Nat} {sp : Nat → Bool} {held : Bool} {v : Value} {d : DataW H} {pl : List MemPlace} (hv : Value.okWide Try.prog W .any base 27 v) (ht : DataW.Trod enc Try.prog W 0 sp held 27 v d pl)
    (hz : ∀ n ∈ d.weights Try.prog 27, n ≤ reachBytes) :
    Calls Try.prog 12 #[v] W fun e w' => e = .returned (.bool true) ∧ Below W.heap.size W w' := by
  obtain ⟨p, l, bs, rfl, hp⟩ := open_post hv ht hz
  exact postRight_at W _ p l bs hp.at_
end Go.Proofs.Ytnphnaggamfoiaa
