/- The reference's reader: Bytes, any. -/
import Derived.Test.YtdnbbjhickjnmaaY5
namespace Go.Proofs.Ytdnbbjhickjnmaa.Wr
open Go.RowKit
set_option maxRecDepth 20000
set_option linter.unusedVariables false
set_option maxRecDepth 20000
set_option linter.unusedSimpArgs false

theorem ubytes_bad (S : Nat → Prop) (p : Nat) (ys : List Int) (n : Int) (w : World) (h : RfAt w S p ys) (hn : bytE ys n ≠ 0) :
    Calls Try.prog 88 #[.pointer (some ⟨p, 0, none⟩), .int .i64 n] w fun e w' => e = .returned (.tuple #[.slice none 0 0, .int .i64 (bytE ys n)]) ∧ Below w.heap.size w w' := by
  have HH := Lib.hid h
  clear h
  unfold bytE at hn ⊢
  by_cases h0 : n < 0
  · rw [if_pos h0]
    clear hn
    go_enter Try.func88, Try.ntmps88
    go_wp2_with fail
    go_ret2
    exact ⟨rfl, B0 w⟩
  · rw [if_neg h0] at hn ⊢
    by_cases h1 : (ys.length : Int) < n
    · rw [if_pos h1]
      clear hn
      go_enter Try.func88, Try.ntmps88
      go_wp2_with fail
      refine (uleft_any S p ys _ HH.out).mono ?_
      rintro e w1 ⟨rfl, hw1⟩
      have hb1 : Below w.heap.size w w1 := by obtain ⟨n, rfl⟩ := hw1; exact BdN (B0 w) n
      clear hw1
      go_wp2_with fail
      go_ret2
      exact ⟨rfl, hb1⟩
    · rw [if_neg h1] at hn; exact absurd rfl hn

theorem ubytes_zero {S : Nat → Prop} {p : Nat} {A : Option Addr} {c : Nat} {pre : List Int} {w w' : World} (hS : ∀ i, S i → i < w.heap.size) (hl : pre.length ≤ 140737488355328) (h2 : S p) (h4 : Blk w p 133 #[.slice A pre.length c, .int .i64 pre.length])
    (h6 : w.ownsRow 0 5 1 (.slice A pre.length c) pre.length (bts pre)) (h7 : ∀ k, (Value.slice A pre.length c).ownBlock = some k → S k) (hm : Mod S w w') {W : World} (hW : Below w.heap.size w W) (hk : Below W.heap.size (W.setCell ⟨p, 1, none⟩ (.int .i64 pre.length)) w') : FDid S p [] w w' := by
  refine ⟨hm, ?_⟩
  have := RfAt.moved (zs := []) (rs := []) (W := W) (p := p) (pre := pre) (A := A) (c := c) (fun i hi => Nat.lt_of_lt_of_le (hS i hi) hW.size) (by simpa using hl) h2 (by simpa using h4.later hW) (by simpa using own_below h6 hW) (by simpa using h7) (pre.length) (by simp)
  exact this.below (by simpa using hk)

theorem ubytes_any (S : Nat → Prop) (p : Nat) (ys : List Int) (n : Int) (w : World) (h : RfAt w S p ys) :
    Calls Try.prog 88 #[.pointer (some ⟨p, 0, none⟩), .int .i64 n] w fun e w' => ∃ A' c', e = .returned (.tuple #[.slice A' (bytV ys n).length c', .int .i64 (bytE ys n)]) ∧ w'.ownsRow w.heap.size 5 1 (.slice A' (bytV ys n).length c') (bytV ys n).length (bts (bytV ys n)) ∧ FDid S p (bytL ys n) w w' := by
  by_cases he : bytE ys n = 0
  · have h0 : ¬ n < 0 := by intro h; simp [bytE, h] at he
    have h1 : ¬ (ys.length : Int) < n := by intro h; simp [bytE, h0, h] at he
    obtain ⟨k, rfl⟩ := Int.eq_ofNat_of_zero_le (show 0 ≤ n by omega)
    have hz : (ys.take k).length = k := by simp; omega
    rw [bytV, bytL, he, if_pos rfl, if_pos rfl, Int.toNat_natCast]
    obtain ⟨zs, hzs⟩ : ∃ zs, zs = ys.take k := ⟨_, rfl⟩
    obtain ⟨rs, hrs⟩ : ∃ rs, rs = ys.drop k := ⟨_, rfl⟩
    have e : ys = zs ++ rs := by rw [hzs, hrs, List.take_append_drop]
    rw [← hzs] at hz ⊢
    rw [← hrs]
    subst hz
    clear hzs hrs he h1
    subst e
    have hh := h
    obtain ⟨hS, A, c, pre, hl, h2, h4, h6, h7⟩ := h
    have hcap := (Rd.of_own h6).cap.2.1
    rcases h6.2 with ⟨hv, _⟩ | ⟨g, cap, cur, hv, _⟩
    · injection hv with e1 e2 e3
      subst e1 e3
      rw [List.length_append] at e2
      have hz3 : pre.length = 0 ∧ zs.length = 0 ∧ rs.length = 0 := by omega
      obtain rfl : pre = [] := List.eq_nil_of_length_eq_zero hz3.1
      obtain rfl : zs = [] := List.eq_nil_of_length_eq_zero hz3.2.1
      obtain rfl : rs = [] := List.eq_nil_of_length_eq_zero hz3.2.2
      refine (ubytes_void S p w (by omega) h2 (by simpa using h4) hh).mono ?_
      rintro e w' ⟨A', c', rfl, ho, hm, W, W2, rfl, hW, hk⟩
      exact ⟨A', c', by simp, by simpa [bts] using ho, ubytes_zero (pre := []) hS (by simp) h2 (by simpa using h4) (by simpa using h6) (by simpa using h7) hm hW (by simpa using hk)⟩
    · injection hv with e1 e2 e3
      subst e1
      by_cases hc : pre.length < c
      · exact ubytes_some S p g c pre zs rs w hl h2 h4 h6 h7 hS hh hc
      · rw [List.length_append] at hcap
        obtain rfl : zs = [] := List.eq_nil_of_length_eq_zero (by omega)
        obtain rfl : rs = [] := List.eq_nil_of_length_eq_zero (by omega)
        obtain rfl : c = pre.length := by simp at hcap; omega
        refine (ubytes_full S p g pre w (by simpa using hl) h2 (by simpa using h4) hh).mono ?_
        rintro e w' ⟨A', c', rfl, ho, hm, W, W2, rfl, hW, hk⟩
        exact ⟨A', c', by simp, by simpa [bts] using ho, ubytes_zero (pre := pre) hS (by simpa using hl) h2 (by simpa using h4) (by simpa using h6) (by simpa using h7) hm hW (by simpa using hk)⟩
  · rw [bytV, bytL, if_neg he, if_neg he]
    refine (ubytes_bad S p ys n w h he).mono ?_
    rintro e w' ⟨rfl, hb⟩
    exact ⟨none, 0, rfl, World.ownsRow_nil _ _ _ _, fdid_same h hb⟩
end Go.Proofs.Ytdnbbjhickjnmaa.Wr
