/- Walks of the program's check: entries, snapshot. -/
import Derived.Test.YtnphnaggamfoiaaC3
namespace Go.Proofs.Ytnphnaggamfoiaa
open Go.RowKit
set_option maxRecDepth 20000
set_option linter.unusedVariables false
set_option linter.unusedSimpArgs false

theorem entsB_next {te base t : Int} {L : List Ed} {k : Nat} (hk : k < L.length) : entsB te (base + k) t (L.drop k) = (entB te (base + k) t L[k] && entsB te (base + ((k + 1 : Nat) : Int)) L[k].te (L.drop (k + 1))) := by
  rw [List.drop_eq_getElem_cons hk]
  show (entB te (base + k) t L[k] && entsB te (base + k + 1) L[k].te (L.drop (k + 1))) = _
  rw [show base + ((k + 1 : Nat) : Int) = base + k + 1 by omega]

set_option maxHeartbeats 4000000 in
theorem ents_any (S : Nat → Prop) (p : Po) (l : List En) (w : World) (hr : Rd w S 4 (.slice p.EA p.en p.ec) p.en (rowE l)) (hS : ∀ i, S i → i < w.heap.size) (hl : l.length = p.en) (hm : p.en ≤ 140737488351232) (hi : 0 ≤ p.ix ∧ p.ix ≤ 9007199254740991) :
    Calls Try.prog 36 #[p.v] w fun e w' => e = .returned (.bool (entsB p.te (p.ix + 1) p.lt (l.map En.ed) && decide (((l.map En.ed).length : Int) ≤ 8))) ∧ Below w.heap.size w w' := by
  obtain ⟨kd, fr, to, te, ix, lt, co, ok, hi', EA, en, ec, si, st, sc, SA, sn, sk⟩ := p
  simp only at hr hl hm hi
  obtain ⟨hi0, hi1⟩ := hi
  have hcap := hr.cap.2
  have hc1 := hcap.1
  have hc2 := hcap.2
  unfold maxLen at hc2
  have HR := Lib.hid hr
  have HSS := Lib.hid hS
  have HL := Lib.hid hl
  have hm' : (en : Int) ≤ 140737488351232 := by omega
  clear hr hS hl hcap
  simp only [Po.v, Po.cs]
  have HBX := Lib.hid (Blk.new w 27 #[.int .i64 kd, .int .i64 fr, .int .i64 to, .int .i64 te, .int .i64 ix, .int .i64 lt, .int .i64 co, .bool ok, .int .i64 hi', .slice EA en ec, .int .i64 si, .int .i64 st, .int .i64 sc, .slice SA sn sk])
  go_enter Try.func36, Try.ntmps36
  go_wp2_with fail
  go_loopw [3, 11] (fun tm i wr => ∃ (k : Nat) (t : Int), k ≤ en ∧ i = .int .i64 k ∧ tm = .int .i64 t ∧ entsB te (ix + 1) lt (l.map En.ed) = entsB te (ix + 1 + k) t ((l.map En.ed).drop k) ∧ Below (w.heap.size + 1) (w.alloc (.cells #[.int .i64 kd, .int .i64 fr, .int .i64 to, .int .i64 te, .int .i64 ix, .int .i64 lt, .int .i64 co, .bool ok, .int .i64 hi', .slice EA en ec, .int .i64 si, .int .i64 st, .int .i64 sc, .slice SA sn sk] 27)) wr) (fun _ i _ => en - (intOf i).toNat)
  case atStart => exact ⟨0, lt, Nat.zero_le _, rfl, rfl, by simp, Below.refl _ _⟩
  case round =>
    obtain ⟨k, t, hk, rfl, rfl, he, hb⟩ := hrel
    obtain ⟨wv, rfl⟩ : ∃ wv, wv = wr := ⟨_, rfl⟩
    have hb' : Below w.heap.size w wv := (Ba (B0 w) _).trans (hb.mono (by omega))
    have hbx : Blk wv w.heap.size 27 #[.int .i64 kd, .int .i64 fr, .int .i64 to, .int .i64 te, .int .i64 ix, .int .i64 lt, .int .i64 co, .bool ok, .int .i64 hi', .slice EA en ec, .int .i64 si, .int .i64 st, .int .i64 sc, .slice SA sn sk] := HBX.out.below hb (by omega)
    have b3 := hbx.cell 3
    have b4 := hbx.cell 4
    have b9 := hbx.cell 9
    have HB := Lib.hid hb'
    have HB2 := Lib.hid hb
    have lw := hbx.lt
    simp only [List.getElem?_toArray, List.getElem?_cons_succ, List.getElem?_cons_zero] at b3 b4 b9
    clear hb hb' hbx
    by_cases hlt : k < en
    · have hlt' : (k : Int) < (en : Int) := by omega
      have hk0 : (0 : Int) ≤ (k : Int) := by omega
      have hkl : k < l.length := by have := HL.out; omega
      have hkm : k < (l.map En.ed).length := by simpa using hkl
      rw [entsB_next hkm] at he
      have hgk : (l.map En.ed)[k] = (l[k]).ed := by simp
      rw [hgk] at he
      obtain ⟨g, o, hA, hg, hc⟩ := HR.out.some_ (by omega)
      subst hA
      have f : ∀ j u, j < 4 → (l[k]).cells[j]? = some u → wv.cell? ⟨g, o + k * 4 + j, none⟩ = some u := fun j u hj hu =>
        (HB.out.cell (p := ⟨g, o + k * 4 + j, none⟩) (HSS.out g hg)).trans (by rw [Nat.add_assoc]; exact hc _ _ ((rowE_at l k hkl j hj).trans hu))
      obtain ⟨x, hx⟩ : ∃ x, x = l[k] := ⟨_, rfl⟩
      rw [← hx] at he f
      obtain ⟨xte, xix, xki, xA, xc, xbs⟩ := x
      have d0 := f 0 _ (by omega) rfl
      have d1 := f 1 _ (by omega) rfl
      have d2 := f 2 _ (by omega) rfl
      have d3 := f 3 _ (by omega) rfl
      simp only [En.ed, Nat.add_zero] at he d0 d1 d2 d3
      have HE := Lib.hid he
      have HLG := Lib.hid (HSS.out g hg)
      clear he f hx hc hg hgk
      have HF : entB te (ix + 1 + (k : Int)) t ⟨xte, xix, xki, xbs⟩ = false → (entsB te (ix + 1) lt (l.map En.ed) && decide (((l.map En.ed).length : Int) ≤ 8)) = false := fun h => by rw [HE.out, h]; rfl
      replace HF := Lib.hid HF
      cases h1 : (xix == ix + 1 + (k : Int))
      · have q1 : (xix != ix + 1 + (k : Int)) = true := by rw [bne, h1]; rfl
        have HH := Lib.hid h1
        clear h1
        go_wp2_with fail
        go_ret
        exact ⟨ret_bool (HF.out (by simp [entB, HH.out])).symm, Ba HB.out _⟩
      · have q1 : (xix != ix + 1 + (k : Int)) = false := by rw [bne, h1]; rfl
        have HH := Lib.hid h1
        clear h1
        cases h2 : nuB xix
        · have HN := Lib.hid h2
          clear h2
          go_wp2_with (go_at_call 33; refine (number_is HN.out _).mono ?_; rintro e w' ⟨rfl, rfl⟩)
          go_ret
          exact ⟨ret_bool (HF.out (by simp [entB, HN.out])).symm, Ba HB.out _⟩
        · have HN := Lib.hid h2
          clear h2
          cases h3 : wiB xte t te
          · have HT := Lib.hid h3
            clear h3
            go_wp2_with (first | (go_at_call 33; refine (number_is HN.out _).mono ?_; rintro e w' ⟨rfl, rfl⟩) | (go_at_call 32; refine (within_is HT.out _).mono ?_; rintro e w' ⟨rfl, rfl⟩))
            go_ret
            exact ⟨ret_bool (HF.out (by simp [entB, HT.out])).symm, Ba HB.out _⟩
          · have HT := Lib.hid h3
            clear h3
            cases h4 : wiB xki 0 2
            · have HK := Lib.hid h4
              clear h4
              go_wp2_with (first | (go_at_call 33; refine (number_is HN.out _).mono ?_; rintro e w' ⟨rfl, rfl⟩) | (go_at_call_of 32 xte; refine (within_is HT.out _).mono ?_; rintro e w' ⟨rfl, rfl⟩) | (go_at_call_of 32 xki; refine (within_is HK.out _).mono ?_; rintro e w' ⟨rfl, rfl⟩))
              go_ret
              exact ⟨ret_bool (HF.out (by simp [entB, HK.out])).symm, Ba HB.out _⟩
            · have HK := Lib.hid h4
              clear h4
              by_cases h5 : (xbs.length : Int) ≤ 1200
              · have h5' : ¬ (1200 : Int) < (xbs.length : Int) := by omega
                have HD := Lib.hid h5
                go_wp2_with (first | (go_at_call 33; refine (number_is HN.out _).mono ?_; rintro e w' ⟨rfl, rfl⟩) | (go_at_call_of 32 xte; refine (within_is HT.out _).mono ?_; rintro e w' ⟨rfl, rfl⟩) | (go_at_call_of 32 xki; refine (within_is HK.out _).mono ?_; rintro e w' ⟨rfl, rfl⟩))
                go_roundw
                case rel => exact ⟨k + 1, xte, by omega, by go_num, rfl, by rw [HE.out]; simp [entB, HH.out, HN.out, HT.out, HK.out, HD.out], HB2.out.alloc (by have := HB2.out.size; simpa using this) _⟩
                case measure => simp [intOf]; omega
              · have h5' : (1200 : Int) < (xbs.length : Int) := by omega
                have HD := Lib.hid h5
                clear h5
                go_wp2_with (first | (go_at_call 33; refine (number_is HN.out _).mono ?_; rintro e w' ⟨rfl, rfl⟩) | (go_at_call_of 32 xte; refine (within_is HT.out _).mono ?_; rintro e w' ⟨rfl, rfl⟩) | (go_at_call_of 32 xki; refine (within_is HK.out _).mono ?_; rintro e w' ⟨rfl, rfl⟩))
                go_ret
                exact ⟨ret_bool (HF.out (by simp [entB, HD.out])).symm, Ba HB.out _⟩
    · obtain rfl : k = en := by omega
      have HE := Lib.hid he
      clear he
      go_wp2_with fail
      go_ret
      refine ⟨ret_bool ?_, HB.out⟩
      have e1 : ((l.map En.ed).drop k) = [] := List.drop_eq_nil_of_le (by have := HL.out; simp; omega)
      rw [HE.out, e1]
      simp [entsB, HL.out]
end Go.Proofs.Ytnphnaggamfoiaa
