/- Walks: the reader's Bytes. -/
import Derived.Test.YtnphnaggamfoiaaW7
namespace Go.Proofs.Ytnphnaggamfoiaa.Wr
open Go.RowKit
set_option linter.unusedVariables false
set_option maxRecDepth 20000
set_option linter.unusedSimpArgs false

theorem rd_head {w : World} {S : Nat → Prop} {A : Option Addr} {c : Nat} (xs ys : List Int) (h : Rd w S 1 (.slice A (xs ++ ys).length c) (xs ++ ys).length (bts (xs ++ ys))) : Rd w S 1 (.slice A xs.length c) xs.length (bts xs) := by
  have hc := h.cap
  simp only [List.length_append] at hc
  refine ⟨by simp [bts], A, c, rfl, by omega, by omega, fun hn => ?_⟩
  obtain ⟨g, o, he, hs, hj⟩ := h.some_ (by simp; omega)
  exact ⟨g, o, he, hs, fun j u hu => hj j u (by rw [bts_append, List.getElem?_append_left (List.getElem?_eq_some_iff.1 hu).1]; exact hu)⟩

set_option maxHeartbeats 1000000 in
theorem rbytes_ok (S : Nat → Prop) (p s : Nat) (A : Option Addr) (c : Nat) (pre zs rs : List Int) (w : World) (h : RdOf w S p s A c pre (zs ++ rs)) :
    Calls Try.prog 112 #[.pointer (some ⟨p, 0, none⟩), .int .i64 (zs.length : Int)] w fun e w' => ∃ A' c' W, e = .returned (.tuple #[.slice A' zs.length c', .int .i64 0]) ∧ Fresh w W A' c' zs ∧ w' = W.setCell ⟨s, 1, none⟩ (.int .i64 ((pre.length : Int) + zs.length)) := by
  have HH := Lib.hid h
  obtain ⟨h1, hl, h2, h3, h4, h5, h6, h7⟩ := h
  have lp := h4.lt
  have ls := h5.lt
  obtain ⟨x0, f0⟩ := blk1 h4
  obtain ⟨y0, y1, g0, g1⟩ := blk2 h5
  have H4 := Lib.hid h4
  have H5 := Lib.hid h5
  have H6 := Lib.hid h6
  have HL := Lib.hid (And.intro hl (And.intro h1 h7))
  simp only [List.length_append] at hl
  clear h1 h2 h3 h4 h5 h6 h7
  have hz0 : ¬ (zs.length : Int) < 0 := by omega
  have hz1 : ¬ (zs.length : Int) + (rs.length : Int) < (zs.length : Int) := by omega
  go_enter Try.func112, Try.ntmps112
  go_wp2_with (first
    | (go_at_call 72; refine (rnone_any p s w H4.out).mono ?_; rintro e w' ⟨rfl, rfl⟩)
    | (go_at_call 50; refine (left_any S p (zs ++ rs) w ⟨_, _, _, _, HH.out⟩).mono ?_; rintro e w1 ⟨rfl, hw1⟩; have hb1 : Below w.heap.size w w1 := (by obtain ⟨n, rfl⟩ := hw1; exact BdN (B0 w) n); clear hw1; obtain ⟨x0', f0'⟩ := blk1 (H4.out.later hb1); obtain ⟨y0', y1', g0', g1'⟩ := blk2 (H5.out.later hb1))
    | (go_at_call 73; refine (rest_any s A c pre (zs ++ rs) _ (H5.out.later hb1) (own_below H6.out hb1) HL.out.1).mono ?_; rintro e w2 ⟨A', c', rfl, HR, hw2⟩; have hcap := HR.cap; unfold maxLen at hcap; simp only [List.length_append] at hcap; obtain ⟨hcap1, hcap2, hcap3⟩ := hcap; replace HR := Lib.hid HR; have hb2 : Below w.heap.size w w2 := (by obtain ⟨n, rfl⟩ := hw2; exact BdN hb1 n); have HW2 := Lib.hid hw2; clear hw2)
    | (go_at_call 69; refine (clone_any (fun k => (Value.slice A (pre.length + (zs ++ rs).length) c).ownBlock = some k) A' c' zs w2 (by obtain ⟨n, e⟩ := HW2.out; subst e; exact rd_head zs rs (HR.out.below (BdN (B0 w1) n) (fun i hi => Nat.lt_of_lt_of_le (own_lt H6.out i hi) hb1.size))) (fun i hi => Nat.lt_of_lt_of_le (own_lt H6.out i hi) hb2.size) (by have := HL.out.1; simp at this; omega)).mono ?_; rintro e w3 ⟨A3, c3, rfl, HF⟩; have hb3 := Bt hb2 HF.kept; obtain ⟨x0t, f0t⟩ := blk1 (H4.out.later hb3); obtain ⟨y0t, y1t, g0t, g1t⟩ := blk2 (H5.out.later hb3); replace HF := Lib.hid HF))
  go_ret2
  exact ⟨A3, c3, w3, rfl, ⟨own_mod HF.out.own (Mod.refl (fun _ => False) _) (fun _ _ h => h) hb2.size, hb3⟩, rfl⟩

def bytE (ys : List Int) (n : Int) : Int := if n < 0 then 2 else if (ys.length : Int) < n then 3 else 0
def bytV (ys : List Int) (n : Int) : List Int := if bytE ys n = 0 then ys.take n.toNat else []
def bytL (ys : List Int) (n : Int) : List Int := if bytE ys n = 0 then ys.drop n.toNat else ys

theorem rbytes_bad (S : Nat → Prop) (p : Nat) (ys : List Int) (n : Int) (w : World) (h : RdAt w S p ys) (hn : bytE ys n ≠ 0) :
    Calls Try.prog 112 #[.pointer (some ⟨p, 0, none⟩), .int .i64 n] w fun e w' => e = .returned (.tuple #[.slice none 0 0, .int .i64 (bytE ys n)]) ∧ ∃ n, w' = w.drewN n := by
  have HH := Lib.hid h
  obtain ⟨s, A, c, pre, h1, hl, h2, h3, h4, h5, h6, h7⟩ := h
  have H4 := Lib.hid h4
  clear h1 hl h2 h3 h4 h5 h6 h7
  unfold bytE at hn ⊢
  by_cases h0 : n < 0
  · rw [if_pos h0]
    clear hn
    go_enter Try.func112, Try.ntmps112
    go_wp2_with (go_at_call 72; refine (rnone_any p s w H4.out).mono ?_; rintro e w' ⟨rfl, rfl⟩)
    go_ret2
    exact ⟨rfl, 0, rfl⟩
  · rw [if_neg h0] at hn ⊢
    by_cases h1 : (ys.length : Int) < n
    · rw [if_pos h1]
      clear hn
      go_enter Try.func112, Try.ntmps112
      go_wp2_with (first
        | (go_at_call 72; refine (rnone_any p s w H4.out).mono ?_; rintro e w' ⟨rfl, rfl⟩)
        | (go_at_call 50; refine (left_any S p ys w HH.out).mono ?_; rintro e w' ⟨rfl, nq, rfl⟩))
      go_ret2
      exact ⟨rfl, nq, rfl⟩
    · rw [if_neg h1] at hn; exact absurd rfl hn

theorem rbytes_any (S : Nat → Prop) (p : Nat) (ys : List Int) (n : Int) (w : World) (h : RdAt w S p ys) :
    Calls Try.prog 112 #[.pointer (some ⟨p, 0, none⟩), .int .i64 n] w fun e w' => ∃ A' c', e = .returned (.tuple #[.slice A' (bytV ys n).length c', .int .i64 (bytE ys n)]) ∧ w'.ownsRow w.heap.size 5 1 (.slice A' (bytV ys n).length c') (bytV ys n).length (bts (bytV ys n)) ∧ RDid S p (bytL ys n) w w' := by
  by_cases he : bytE ys n = 0
  · have h0 : ¬ n < 0 := by intro h; simp [bytE, h] at he
    have h1 : ¬ (ys.length : Int) < n := by intro h; simp [bytE, h0, h] at he
    obtain ⟨k, rfl⟩ := Int.eq_ofNat_of_zero_le (show 0 ≤ n by omega)
    have hz : (ys.take k).length = k := by simp; omega
    rw [bytV, bytL, he, if_pos rfl, if_pos rfl]
    have h' : RdAt w S p (ys.take k ++ ys.drop k) := by rw [List.take_append_drop]; exact h
    obtain ⟨s, A, c, pre, ho⟩ := h'
    have := rbytes_ok S p s A c pre (ys.take k) (ys.drop k) w ho
    rw [hz] at this
    refine this.mono ?_
    rintro e w' ⟨A', c', W, rfl, hf, rfl⟩
    have hs := own_ne_blk hf.own (ho.2.2.2.2.2.1.later hf.kept) (by decide)
    refine ⟨A', c', by simp [hz], own_mod hf.own ((Mod.refl (fun k => k = s) W).setCell (.inl rfl) _) (fun k hk he => by subst he; exact hs hk) (Nat.le_refl _), ho.mod_ hf.kept _, s, A, c, pre ++ ys.take k, (ho.below hf.kept).moved (by simp) _ (by simp; omega)⟩
  · rw [bytV, bytL, if_neg he, if_neg he]
    refine (rbytes_bad S p ys n w h he).mono ?_
    rintro e w' ⟨rfl, n, rfl⟩
    exact ⟨none, 0, rfl, World.ownsRow_nil _ _ _ _, rdid_same h (BdN (B0 w) n)⟩
end Go.Proofs.Ytnphnaggamfoiaa.Wr
