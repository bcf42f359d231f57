/- Walks of the document's answer: entries, snapshot, Check. -/
import Derived.Test.YtnphnaggamfoiaaC8
import Derived.Test.YtnphnaggamfoiaaC5
namespace Go.Proofs.Ytnphnaggamfoiaa
open Go.RowKit
set_option maxRecDepth 20000
set_option linter.unusedVariables false
set_option linter.unusedSimpArgs false

set_option maxHeartbeats 8000000 in
theorem lists_any (S : Nat → Prop) (p : Po) (l : List En) (w : World) (hr : Rd w S 4 (.slice p.EA p.en p.ec) p.en (rowE l)) (hS : ∀ i, S i → i < w.heap.size) (hl : l.length = p.en) (hi : 0 ≤ p.ix ∧ p.ix ≤ 9007199254740991) :
    Calls Try.prog 40 #[p.v] w fun e w' => e = .returned (.bool (entsB p.te (p.ix + 1) p.lt (l.map En.ed) && decide (((l.map En.ed).length : Int) ≤ 8))) ∧ Below w.heap.size w w' := by
  obtain ⟨kd, fr, tq, te, ix, lt, co, ok, hi, EA, en, ec, si, st, sc, SA, sn, sk⟩ := p
  simp only at hr hl hi
  obtain ⟨hi0, hi1⟩ := hi
  have hcap := hr.cap.2
  have hc1 := hcap.1
  have hc2 := hcap.2
  unfold maxLen at hc2
  have HR := Lib.hid hr
  have HSS := Lib.hid hS
  have HL := Lib.hid hl
  clear hr hS hl hcap
  simp only [Po.v, Po.cs]
  have HBX := Lib.hid (Blk.new w 27 #[.int .i64 kd, .int .i64 fr, .int .i64 tq, .int .i64 te, .int .i64 ix, .int .i64 lt, .int .i64 co, .bool ok, .int .i64 hi, .slice EA en ec, .int .i64 si, .int .i64 st, .int .i64 sc, .slice SA sn sk])
  by_cases hen : en ≤ 8
  · have hen' : ¬ (8 : Int) < (en : Int) := by omega
    have hen8 : (en : Int) ≤ 8 := by omega
    have HEN : Hid (decide (((l.map En.ed).length : Int) ≤ 8) = true) := Lib.hid (by have := HL.out; simp; omega)
    rw [HEN.out, Bool.and_true]
    go_enter Try.func40, Try.ntmps40
    go_wp2_with fail
    go_loopw [3, 4] (fun tm i wr => ∃ (k : Nat) (t : Int), k ≤ en ∧ i = .int .i64 k ∧ tm = .int .i64 t ∧ entsB te (ix + 1) lt (l.map En.ed) = entsB te (ix + 1 + k) t ((l.map En.ed).drop k) ∧ Below (w.heap.size + 1) (w.alloc (.cells #[.int .i64 kd, .int .i64 fr, .int .i64 tq, .int .i64 te, .int .i64 ix, .int .i64 lt, .int .i64 co, .bool ok, .int .i64 hi, .slice EA en ec, .int .i64 si, .int .i64 st, .int .i64 sc, .slice SA sn sk] 27)) wr) (fun _ i _ => en - (intOf i).toNat)
    case atStart => exact ⟨0, lt, Nat.zero_le _, rfl, rfl, by simp, Below.refl _ _⟩
    case round =>
      obtain ⟨k, t, hk, rfl, rfl, he, hb⟩ := hrel
      obtain ⟨wv, rfl⟩ : ∃ wv, wv = wr := ⟨_, rfl⟩
      have hb' : Below w.heap.size w wv := (Ba (B0 w) _).trans (hb.mono (by omega))
      have hbx : Blk wv w.heap.size 27 #[.int .i64 kd, .int .i64 fr, .int .i64 tq, .int .i64 te, .int .i64 ix, .int .i64 lt, .int .i64 co, .bool ok, .int .i64 hi, .slice EA en ec, .int .i64 si, .int .i64 st, .int .i64 sc, .slice SA sn sk] := HBX.out.below hb (by omega)
      have b3 := hbx.cell 3
      have b4 := hbx.cell 4
      have b9 := hbx.cell 9
      have HB := Lib.hid hb'
      have HB2 := Lib.hid hb
      have lw := hbx.lt
      simp only [List.getElem?_toArray, List.getElem?_cons_succ, List.getElem?_cons_zero] at b3 b4 b9
      clear hb hb' hbx
      by_cases hlt : k < en
      · have hlt' : (k : Int) < (en : Int) := by omega
        have hk0 : (0 : Int) ≤ (k : Int) := by omega
        have hkl : k < l.length := by have := HL.out; omega
        have hkm : k < (l.map En.ed).length := by simpa using hkl
        rw [entsB_next hkm] at he
        have hgk : (l.map En.ed)[k] = (l[k]).ed := by simp
        rw [hgk] at he
        obtain ⟨g, o, hA, hg, hc⟩ := HR.out.some_ (by omega)
        subst hA
        have f : ∀ j u, j < 4 → (l[k]).cells[j]? = some u → wv.cell? ⟨g, o + k * 4 + j, none⟩ = some u := fun j u hj hu =>
          (HB.out.cell (p := ⟨g, o + k * 4 + j, none⟩) (HSS.out g hg)).trans (by rw [Nat.add_assoc]; exact hc _ _ ((rowE_at l k hkl j hj).trans hu))
        obtain ⟨x, hx⟩ : ∃ x, x = l[k] := ⟨_, rfl⟩
        rw [← hx] at he f
        obtain ⟨xte, xix, xki, xA, xc, xbs⟩ := x
        have d0 := f 0 _ (by omega) rfl
        have d1 := f 1 _ (by omega) rfl
        have d2 := f 2 _ (by omega) rfl
        have d3 := f 3 _ (by omega) rfl
        simp only [En.ed, Nat.add_zero] at he d0 d1 d2 d3
        have HE := Lib.hid he
        have HLG := Lib.hid (HSS.out g hg)
        clear he f hx hc hg hgk
        have HF : Hid (entB te (ix + 1 + (k : Int)) t ⟨xte, xix, xki, xbs⟩ = false → entsB te (ix + 1) lt (l.map En.ed) = false) := Lib.hid (fun h => by rw [HE.out, h]; rfl)
        cases h2 : nuB xix
        · have HN := Lib.hid h2
          clear h2
          go_wp2_with (go_at_call 38; refine (refnumber_is HN.out _).mono ?_; rintro e w' ⟨rfl, rfl⟩)
          go_ret
          exact ⟨ret_bool (HF.out (by simp [entB, HN.out])).symm, Ba HB.out _⟩
        · have HN := Lib.hid h2
          clear h2
          cases h1 : (xix == ix + 1 + (k : Int))
          · have q1 : (xix != ix + 1 + (k : Int)) = true := by rw [bne, h1]; rfl
            have HH := Lib.hid h1
            clear h1
            go_wp2_with (go_at_call 38; refine (refnumber_is HN.out _).mono ?_; rintro e w' ⟨rfl, rfl⟩)
            go_ret
            exact ⟨ret_bool (HF.out (by simp [entB, HH.out])).symm, Ba HB.out _⟩
          · have q1 : (xix != ix + 1 + (k : Int)) = false := by rw [bne, h1]; rfl
            have HH := Lib.hid h1
            clear h1
            by_cases g0 : xte < t
            · go_wp2_with (go_at_call 38; refine (refnumber_is HN.out _).mono ?_; rintro e w' ⟨rfl, rfl⟩)
              go_ret
              exact ⟨ret_bool (HF.out (by simp [entB, wiB]; omega)).symm, Ba HB.out _⟩
            · skip
              by_cases g1 : te < xte
              · go_wp2_with (go_at_call 38; refine (refnumber_is HN.out _).mono ?_; rintro e w' ⟨rfl, rfl⟩)
                go_ret
                exact ⟨ret_bool (HF.out (by simp [entB, wiB]; omega)).symm, Ba HB.out _⟩
              · skip
                by_cases g2 : xki < 0
                · go_wp2_with (go_at_call 38; refine (refnumber_is HN.out _).mono ?_; rintro e w' ⟨rfl, rfl⟩)
                  go_ret
                  exact ⟨ret_bool (HF.out (by simp [entB, wiB]; omega)).symm, Ba HB.out _⟩
                · skip
                  by_cases g3 : 2 < xki
                  · go_wp2_with (go_at_call 38; refine (refnumber_is HN.out _).mono ?_; rintro e w' ⟨rfl, rfl⟩)
                    go_ret
                    exact ⟨ret_bool (HF.out (by simp [entB, wiB]; omega)).symm, Ba HB.out _⟩
                  · skip
                    by_cases g4 : (1200 : Int) < (xbs.length : Int)
                    · go_wp2_with (go_at_call 38; refine (refnumber_is HN.out _).mono ?_; rintro e w' ⟨rfl, rfl⟩)
                      go_ret
                      exact ⟨ret_bool (HF.out (by simp [entB]; omega)).symm, Ba HB.out _⟩
                    · skip
                      go_wp2_with (go_at_call 38; refine (refnumber_is HN.out _).mono ?_; rintro e w' ⟨rfl, rfl⟩)
                      go_roundw
                      case rel => exact ⟨k + 1, xte, by omega, by go_num, rfl, by rw [HE.out]; simp [entB, HH.out, HN.out, wiB]; omega, HB2.out.alloc (by have := HB2.out.size; simpa using this) _⟩
                      case measure => simp [intOf]; omega
      · obtain rfl : k = en := by omega
        have HE := Lib.hid he
        clear he
        go_wp2_with fail
        go_ret
        refine ⟨ret_bool ?_, HB.out⟩
        have e1 : ((l.map En.ed).drop k) = [] := List.drop_eq_nil_of_le (by have := HL.out; simp; omega)
        rw [HE.out, e1]
        rfl
  · have hen' : (8 : Int) < (en : Int) := by omega
    have HEN : Hid (decide (((l.map En.ed).length : Int) ≤ 8) = false) := Lib.hid (by have := HL.out; simp; omega)
    rw [HEN.out, Bool.and_false]
    go_enter Try.func40, Try.ntmps40
    go_wp2_with fail
    go_ret
    exact ⟨rfl, Ba (B0 w) _⟩

set_option maxHeartbeats 8000000 in
theorem refsnap_any (p : Po) (hn : p.sn ≤ 140737488351232) (w : World) : Calls Try.prog 41 #[p.v] w fun e w' => e = .returned (.bool (snpB p)) ∧ Below w.heap.size w w' := by
  obtain ⟨kd, fr, tq, te, ix, lt, co, ok, hi, EA, en, ec, si, st, sc, SA, sn, sk⟩ := p
  simp only at hn
  have hn' : (sn : Int) ≤ 140737488351232 := by omega
  clear hn
  have hs : snpB ⟨kd, fr, tq, te, ix, lt, co, ok, hi, EA, en, ec, si, st, sc, SA, sn, sk⟩ = (wiB si 1 9007199254740991 && wiB st 0 te && decide (sc % 2 = 0) && wiB sc 1 63 && decide ((sn : Int) ≤ 8192)) := rfl
  rw [hs]
  clear hs
  simp only [Po.v, Po.cs]
  by_cases g0 : si < 1
  · rw [show (wiB si 1 9007199254740991 && wiB st 0 te && decide (sc % 2 = 0) && wiB sc 1 63 && decide ((sn : Int) ≤ 8192)) = false by simp [wiB]; omega]
    go_enter Try.func41, Try.ntmps41
    go_wp2_with fail
    go_ret
    exact ⟨rfl, Ba (Ba (B0 w) _) _⟩
  · cases h2 : nuB si
    · have h3 : 9007199254740991 < si := by
        have : ¬ (0 ≤ si ∧ si ≤ 9007199254740991) := by simpa [nuB, wiB] using h2
        omega
      have HN := Lib.hid h2
      clear h2
      rw [show (wiB si 1 9007199254740991 && wiB st 0 te && decide (sc % 2 = 0) && wiB sc 1 63 && decide ((sn : Int) ≤ 8192)) = false by simp [wiB]; omega]
      go_enter Try.func41, Try.ntmps41
      go_wp2_with (go_at_call 38; refine (refnumber_is HN.out _).mono ?_; rintro e w' ⟨rfl, rfl⟩)
      go_ret
      exact ⟨rfl, Ba (Ba (B0 w) _) _⟩
    · have h3 : si ≤ 9007199254740991 := by
        have : (0 ≤ si ∧ si ≤ 9007199254740991) := by simpa [nuB, wiB] using h2
        omega
      have HN := Lib.hid h2
      clear h2
      by_cases k0 : st < 0
      · rw [show (wiB si 1 9007199254740991 && wiB st 0 te && decide (sc % 2 = 0) && wiB sc 1 63 && decide ((sn : Int) ≤ 8192)) = false by simp [wiB]; omega]
        go_enter Try.func41, Try.ntmps41
        go_wp2_with (go_at_call 38; refine (refnumber_is HN.out _).mono ?_; rintro e w' ⟨rfl, rfl⟩)
        go_ret
        exact ⟨rfl, Ba (Ba (B0 w) _) _⟩
      · skip
        by_cases k1 : te < st
        · rw [show (wiB si 1 9007199254740991 && wiB st 0 te && decide (sc % 2 = 0) && wiB sc 1 63 && decide ((sn : Int) ≤ 8192)) = false by simp [wiB]; omega]
          go_enter Try.func41, Try.ntmps41
          go_wp2_with (go_at_call 38; refine (refnumber_is HN.out _).mono ?_; rintro e w' ⟨rfl, rfl⟩)
          go_ret
          exact ⟨rfl, Ba (Ba (B0 w) _) _⟩
        · skip
          by_cases k2 : sc ≤ 0
          · rw [show (wiB si 1 9007199254740991 && wiB st 0 te && decide (sc % 2 = 0) && wiB sc 1 63 && decide ((sn : Int) ≤ 8192)) = false by simp [wiB]; omega]
            go_enter Try.func41, Try.ntmps41
            go_wp2_with (go_at_call 38; refine (refnumber_is HN.out _).mono ?_; rintro e w' ⟨rfl, rfl⟩)
            go_ret
            exact ⟨rfl, Ba (Ba (B0 w) _) _⟩
          · skip
            by_cases k3 : 64 ≤ sc
            · rw [show (wiB si 1 9007199254740991 && wiB st 0 te && decide (sc % 2 = 0) && wiB sc 1 63 && decide ((sn : Int) ≤ 8192)) = false by simp [wiB]; omega]
              go_enter Try.func41, Try.ntmps41
              go_wp2_with (go_at_call 38; refine (refnumber_is HN.out _).mono ?_; rintro e w' ⟨rfl, rfl⟩)
              go_ret
              exact ⟨rfl, Ba (Ba (B0 w) _) _⟩
            · skip
              cases h7 : ((sc % 2 : Int) == 0)
              · have h8 : ¬ sc % 2 = 0 := by simpa using h7
                rw [show (wiB si 1 9007199254740991 && wiB st 0 te && decide (sc % 2 = 0) && wiB sc 1 63 && decide ((sn : Int) ≤ 8192)) = false by simp [wiB]; omega]
                go_enter Try.func41, Try.ntmps41
                go_wp2_with (go_at_call 38; refine (refnumber_is HN.out _).mono ?_; rintro e w' ⟨rfl, rfl⟩)
                go_ret
                exact ⟨rfl, Ba (Ba (B0 w) _) _⟩
              · have h8 : sc % 2 = 0 := by simpa using h7
                by_cases h9 : (sn : Int) ≤ 8192
                · have h10 : decide ((sn : Int) ≤ 8192) = true := by simpa using h9
                  have HE8 := Lib.hid h8
                  rw [show (wiB si 1 9007199254740991 && wiB st 0 te && decide (sc % 2 = 0) && wiB sc 1 63 && decide ((sn : Int) ≤ 8192)) = true by simp [wiB]; omega]
                  clear h8
                  go_enter Try.func41, Try.ntmps41
                  go_wp2_with (go_at_call 38; refine (refnumber_is HN.out _).mono ?_; rintro e w' ⟨rfl, rfl⟩)
                  go_ret
                  exact ⟨rfl, Ba (Ba (B0 w) _) _⟩
                · have h10 : decide ((sn : Int) ≤ 8192) = false := by simpa using h9
                  rw [show (wiB si 1 9007199254740991 && wiB st 0 te && decide (sc % 2 = 0) && wiB sc 1 63 && decide ((sn : Int) ≤ 8192)) = false by rw [h10, Bool.and_false]]
                  clear h8
                  go_enter Try.func41, Try.ntmps41
                  go_wp2_with (go_at_call 38; refine (refnumber_is HN.out _).mono ?_; rintro e w' ⟨rfl, rfl⟩)
                  go_ret
                  exact ⟨rfl, Ba (Ba (B0 w) _) _⟩
end Go.Proofs.Ytnphnaggamfoiaa
