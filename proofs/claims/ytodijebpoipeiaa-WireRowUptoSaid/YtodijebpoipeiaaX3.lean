/- The statement WireNext: its walk. -/
import Derived.Test.YtodijebpoipeiaaP2
namespace Go.Proofs.Ytodijebpoipeiaa
open Go.RowKit
set_option linter.unusedVariables false
set_option linter.unusedSimpArgs false

/-- A row of bytes of the call's own, that may be written. -/
def OwnAt (w : World) (g : Nat) (l : List Int) : Prop := ∃ rest : List Value, Blk w g 5 (bts l ++ rest).toArray
theorem own_at {w : World} {base n c : Nat} {A : Option Addr} {l : List Int} (h : w.ownsRow base 5 1 (.slice A n c) n (bts l)) (h0 : 0 < n) : ∃ g, A = some ⟨g, 0, none⟩ ∧ base ≤ g ∧ n ≤ c ∧ c ≤ maxLen ∧ OwnAt w g l := by
  rcases h.2 with ⟨_, hx⟩ | ⟨g, cap, cur, he, hb, hh, hnc, hcm, hcs, ht⟩
  · have := h.1; rw [hx] at this; simp at this; omega
  · injection he with e1 e2 e3
    subst e1 e3
    refine ⟨g, rfl, hb, hnc, hcm, cur.toList.drop (n * 1), ?_⟩
    rw [← ht, List.take_append_drop]
    exact hh
theorem OwnAt.cell {w : World} {g : Nat} {l : List Int} (h : OwnAt w g l) (j : Nat) (hj : j < l.length) : w.cell? ⟨g, j, none⟩ = some (.int .u8 l[j]) := by
  obtain ⟨rest, hb⟩ := h
  rw [hb.cell, List.getElem?_toArray, List.getElem?_append_left (by simpa [bts] using hj)]
  exact bts_getElem? l j hj
theorem OwnAt.free {w : World} {g : Nat} {l : List Int} (h : OwnAt w g l) (j : Nat) : w.frozen? ⟨g, j, none⟩ = false := by
  obtain ⟨rest, hb⟩ := h
  exact hb.frozen j
theorem OwnAt.set_ {w : World} {g : Nat} {l : List Int} (h : OwnAt w g l) (j : Nat) (hj : j < l.length) (x : Int) : OwnAt (w.setCell ⟨g, j, none⟩ (.int .u8 x)) g (l.set j x) := by
  obtain ⟨rest, hb⟩ := h
  refine ⟨rest, ?_⟩
  have := hb.set_ j (.int .u8 x)
  rw [List.setIfInBounds_toArray, List.set_append_left _ _ (by simpa [bts] using hj)] at this
  simpa [bts, List.map_set] using this
theorem OwnAt.below {w w' : World} {g : Nat} {l : List Int} (h : OwnAt w g l) (hb : Below w.heap.size w w') : OwnAt w' g l := by
  obtain ⟨rest, h⟩ := h
  exact ⟨rest, h.later hb⟩
theorem OwnAt.lt {w : World} {g : Nat} {l : List Int} (h : OwnAt w g l) : g < w.heap.size := by
  obtain ⟨rest, h⟩ := h
  exact h.lt
theorem OwnAt.rd {w : World} {g : Nat} {l : List Int} (h : OwnAt w g l) (n c : Nat) (hn : n = l.length) (hc : n ≤ c) (hm : c ≤ maxLen) : Rd w (fun i => i = g) 1 (.slice (some ⟨g, 0, none⟩) n c) l.length (bts l) := by
  subst hn
  exact ⟨by simp [bts], _, c, rfl, hc, hm, fun _ => ⟨g, 0, rfl, rfl, fun j u hu => by
    have hj : j < l.length := by have := (List.getElem?_eq_some_iff.1 hu).1; simpa [bts] using this
    rw [Nat.zero_add, h.cell j hj, ← hu, bts_getElem? l j hj]⟩⟩

theorem putE_ok {n : Int} {k : Nat} (h1 : 1 ≤ k) (h8 : k ≤ 8) (h0 : 0 ≤ n) (hk : n < p256 k) : putE n k = 0 := by
  unfold putE; rw [if_neg (by omega), if_neg (by rw [Int.toNat_natCast]; omega)]
theorem putL_ok {n : Int} {k : Nat} (h1 : 1 ≤ k) (h8 : k ≤ 8) (h0 : 0 ≤ n) (hk : n < p256 k) : putL [] n k = be k n := by
  rw [putL, if_pos (putE_ok h1 h8 h0 hk), Int.toNat_natCast, List.nil_append]
theorem putL_bad {n : Int} {k : Nat} (h : n < 0 ∨ p256 k ≤ n) : putL [] n k = [] := by
  have : putE n k ≠ 0 := by
    unfold putE
    split
    · omega
    · rw [if_pos (by rw [Int.toNat_natCast]; exact h)]; omega
  rw [putL, if_neg this]

theorem p256_7' : p256 7 = 72057594037927936 := by decide
theorem p256_1 : p256 1 = 256 := by decide
theorem p256_3 : p256 3 = 16777216 := by decide
theorem p256_4 : p256 4 = 4294967296 := by decide
theorem p256_5 : p256 5 = 1099511627776 := by decide
theorem p256_6 : p256 6 = 281474976710656 := by decide

set_option maxHeartbeats 4000000 in
/-- Where no bytes came out. -/
theorem next_none (W : World) (n size : Int) (k : Nat) (wn : -9223372036854775808 ≤ n ∧ n < 9223372036854775808) (hk : bringF size 8 + 1 = k) (hbad : n < 0 ∨ p256 k ≤ n) :
    Calls Try.prog 7 #[.int .i64 n, .int .i64 size] W fun e w' => e = .returned (.bool true) ∧ Below W.heap.size W w' := by
  have hkb := bringF_lt size 8 (by omega)
  obtain ⟨m, hm⟩ : ∃ m, m = bringF size 8 := ⟨_, rfl⟩
  rw [← hm] at hk hkb
  have HM := Lib.hid hm.symm
  clear hm
  have HL := Lib.hid (fun (z : Int) (hz : z = (k : Int)) => (show putL [] n z = [] by rw [hz]; exact putL_bad (n := n) (k := k) hbad))
  have hn2 := wn.2
  by_cases hneg : n < 0
  · clear hbad wn
    have hm1 : (1 : Int) + m = (k : Int) := by omega
    have hkA : (k : Int) ≤ 8 := by omega
    have hkB : (1 : Int) ≤ (k : Int) := by omega
    clear hk hkb
    go_enter Try.func7, Try.ntmps7
    go_wp2_with fail
    refine (works_any W).mono ?_
    rintro e w1 ⟨rfl, hb1⟩
    go_wp2_with fail
    refine (bring_any size 8 _ (by omega)).mono ?_
    rintro e w' ⟨rfl, rfl⟩
    rw [HM.out]
    go_wp2_with fail
    refine (sput_any n k hn2 _).mono ?_
    rintro e w2 ⟨A2, c2, rfl, HF2⟩
    rw [HL.out _ rfl]
    have HB2 := Lib.hid (Bt hb1 HF2.kept)
    clear HF2 hb1
    go_wp2_with fail
    go_ret
    exact ⟨rfl, HB2.out⟩
  · have hp : p256 k ≤ n := by omega
    have hk7 : k ≤ 7 := by
      refine Nat.le_of_not_lt fun h => ?_
      have : k = 8 := by omega
      subst this
      rw [p256_8] at hp
      omega
    have h0 : 0 ≤ n := by omega
    obtain ⟨k', rfl⟩ : ∃ k', k = k' + 1 := ⟨k - 1, by omega⟩
    have hm1 : m = (k' : Int) := by omega
    subst hm1
    have hcases : k' = 0 ∨ k' = 1 ∨ k' = 2 ∨ k' = 3 ∨ k' = 4 ∨ k' = 5 ∨ k' = 6 := by omega
    clear hk hkb hk7 hbad wn hneg
    rcases hcases with rfl | rfl | rfl | rfl | rfl | rfl | rfl
    all_goals
      simp only [Nat.zero_add, Nat.reduceAdd, p256_1, p256_2, p256_3, p256_4, p256_5, p256_6, p256_7'] at hp
      go_enter Try.func7, Try.ntmps7
      go_wp2_with fail
      refine (works_any W).mono ?_
      rintro e w1 ⟨rfl, hb1⟩
      go_wp2_with fail
      refine (bring_any size 8 _ (by omega)).mono ?_
      rintro e w' ⟨rfl, rfl⟩
      rw [HM.out]
      go_wp2_with fail
      refine (sput_any n _ hn2 _).mono ?_
      rintro e w2 ⟨A2, c2, rfl, HF2⟩
      rw [HL.out]
      rotate_left
      · rfl
      have HB2 := Lib.hid (Bt hb1 HF2.kept)
      clear HF2 hb1
      go_wp2_with fail
      go_ret
      refine ⟨ret_bool ?_, HB2.out⟩
      simp
      omega
end Go.Proofs.Ytodijebpoipeiaa
