/- What the reader of messages answers, and the laws that tie it to the bytes that are written (plain words, no walk). -/
import Derived.Test.YtnphnaggamfoiaaW11
import Derived.Test.YtnphnaggamfoiaaC0
namespace Go.Proofs.Ytnphnaggamfoiaa
open Go.RowKit
set_option maxRecDepth 20000
set_option linter.unusedVariables false
set_option linter.unusedSimpArgs false

/-- A reader: what is left; what was wrong first. -/
structure St where
  l : List Int
  e : Int
def St.num (s : St) (n : Nat) : Int := if s.e = 0 then Wr.getV s.l n else 0
def St.nx (s : St) (n : Nat) : St := if s.e = 0 then ⟨Wr.getL s.l n, Wr.getE s.l n⟩ else s
def St.fail (s : St) (b : Bool) (e : Int) : St := if b then (if s.e = 0 then ⟨s.l, e⟩ else s) else s
def St.some (s : St) (n : Int) : List Int := if s.e = 0 then Wr.bytV s.l n else []
def St.sk (s : St) (n : Int) : St := if s.e = 0 then ⟨Wr.bytL s.l n, Wr.bytE s.l n⟩ else s
def St.oct (s : St) : List Int := (s.nx 2).some (s.num 2)
def St.ox (s : St) : St := (s.nx 2).sk (s.num 2)
def St.flag (s : St) : Bool := s.num 1 == 1
def St.fx (s : St) : St := (s.nx 1).fail (decide (1 < s.num 1)) 4

theorem St.nx_bad {s : St} (h : s.e ≠ 0) (n : Nat) : s.nx n = s := if_neg h
theorem St.sk_bad {s : St} (h : s.e ≠ 0) (n : Int) : s.sk n = s := if_neg h
theorem St.fail_bad {s : St} (h : s.e ≠ 0) (b : Bool) (e : Int) : s.fail b e = s := by unfold St.fail; cases b; rfl; exact if_neg h
theorem St.ox_bad {s : St} (h : s.e ≠ 0) : s.ox = s := by unfold St.ox; rw [St.nx_bad h, St.sk_bad h]
theorem St.fx_bad {s : St} (h : s.e ≠ 0) : s.fx = s := by unfold St.fx; rw [St.nx_bad h, St.fail_bad h]
theorem St.nx_ok {s : St} {n : Nat} (h : (s.nx n).e = 0) : s.e = 0 := by
  by_cases h0 : s.e = 0
  · exact h0
  · rw [St.nx_bad h0] at h; exact h
theorem St.sk_ok {s : St} {n : Int} (h : (s.sk n).e = 0) : s.e = 0 := by
  by_cases h0 : s.e = 0
  · exact h0
  · rw [St.sk_bad h0] at h; exact h
theorem St.fail_ok {s : St} {b : Bool} {e : Int} (he : e ≠ 0) (h : (s.fail b e).e = 0) : s.e = 0 ∧ b = false ∧ s.fail b e = s := by
  by_cases h0 : s.e = 0
  · cases b
    · exact ⟨h0, rfl, rfl⟩
    · exfalso; unfold St.fail at h; rw [if_pos rfl, if_pos h0] at h; exact he h
  · rw [St.fail_bad h0] at h; exact absurd h h0

/-- A size that numbers have here. -/
def Sz (n : Nat) : Prop := n = 1 ∨ n = 2 ∨ n = 7
theorem Sz.rng {n : Nat} (h : Sz n) : 1 ≤ n ∧ n ≤ 8 := by unfold Sz at h; omega
theorem Sz.p256 {n : Nat} (h : Sz n) : Wr.p256 n ≤ 72057594037927936 := by
  rcases h with rfl | rfl | rfl <;> decide
theorem getE_sz {n : Nat} (h : Sz n) {ys : List Int} (hb : Byt ys) : Wr.getE ys n = if ys.length < n then 3 else 0 := by
  have h1 := h.rng
  unfold Wr.getE
  rw [if_neg (by omega)]
  by_cases hl : ys.length < n
  · rw [if_pos (by omega), if_pos hl]
  · rw [if_neg (by omega), if_neg hl, Int.toNat_natCast, if_neg]
    have h2 := Wr.num_lt (hb.take n)
    have h3 : (ys.take n).length = n := by simp; omega
    rw [h3] at h2
    have := h.p256
    omega
/-- A reader whose bytes are bytes. -/
def St.Ok (s : St) : Prop := Byt s.l
theorem St.Ok.nx {s : St} (h : s.Ok) (n : Nat) : (s.nx n).Ok := by
  unfold St.nx; split; exact Wr.getL_byt h _; exact h
theorem St.Ok.sk {s : St} (h : s.Ok) (n : Int) : (s.sk n).Ok := by
  unfold St.sk; split; exact Wr.bytL_byt h _; exact h
theorem St.Ok.fail {s : St} (h : s.Ok) (b : Bool) (e : Int) : (s.fail b e).Ok := by
  unfold St.fail; split; split; exact h; exact h; exact h
theorem St.Ok.ox {s : St} (h : s.Ok) : s.ox.Ok := (h.nx 2).sk _
theorem St.Ok.fx {s : St} (h : s.Ok) : s.fx.Ok := (h.nx 1).fail _ _

/-- A number that was read: its bytes were there. -/
theorem St.nx_inv {s : St} {n : Nat} (hn : Sz n) (hb : s.Ok) (h : (s.nx n).e = 0) : s.l = Wr.be n (s.num n) ++ (s.nx n).l ∧ 0 ≤ s.num n ∧ s.num n < Wr.p256 n := by
  have h0 := St.nx_ok h
  unfold St.nx at h ⊢
  rw [if_pos h0] at h ⊢
  have hg := getE_sz hn hb
  simp only at h ⊢
  have hl : ¬ s.l.length < n := by intro hl; rw [hg, if_pos hl] at h; omega
  have h3 : (s.l.take n).length = n := by simp; omega
  have h4 := Wr.be_num (hb.take n)
  have h5 := Wr.num_lt (hb.take n)
  rw [h3] at h4 h5
  have hv : s.num n = Wr.num (s.l.take n) := by
    unfold St.num Wr.getV
    rw [if_pos h0, if_pos h, Int.toNat_natCast]
  rw [hv]
  refine ⟨?_, Wr.num_nonneg (hb.take n), h5⟩
  rw [h4]
  unfold Wr.getL
  rw [if_pos h, Int.toNat_natCast, List.take_append_drop]
theorem St.num_bd {s : St} {n : Nat} (hn : Sz n) (hb : s.Ok) : 0 ≤ s.num n ∧ s.num n < Wr.p256 n := by
  by_cases h : (s.nx n).e = 0
  · exact (St.nx_inv hn hb h).2
  · have hp := Wr.p256_pos n
    have : s.num n = 0 := by
      unfold St.num
      split
      · rename_i h0
        unfold St.nx at h
        rw [if_pos h0] at h
        unfold Wr.getV
        exact if_neg h
      · rfl
    omega
theorem St.sk_inv {s : St} {n : Int} (hn : 0 ≤ n) (h : (s.sk n).e = 0) : s.l = s.some n ++ (s.sk n).l ∧ ((s.some n).length : Int) = n := by
  have h0 := St.sk_ok h
  unfold St.sk at h ⊢
  unfold St.some
  rw [if_pos h0] at h ⊢
  rw [if_pos h0]
  simp only at h ⊢
  unfold Wr.bytV Wr.bytL
  rw [if_pos h, if_pos h]
  refine ⟨(List.take_append_drop _ _).symm, ?_⟩
  unfold Wr.bytE at h
  rw [if_neg (by omega)] at h
  split at h
  · omega
  · simp; omega
/-- Bytes behind how many they are. -/
def olay (a : List Int) : List Int := Wr.be 2 a.length ++ a
theorem olay_length (a : List Int) : (olay a).length = a.length + 2 := by simp [olay, Wr.be_length]; omega
theorem St.ox_inv {s : St} (hb : s.Ok) (h : s.ox.e = 0) : s.e = 0 ∧ s.l = olay s.oct ++ s.ox.l := by
  have h1 : (s.nx 2).e = 0 := St.sk_ok h
  obtain ⟨a, b, _⟩ := St.nx_inv (n := 2) (.inr (.inl rfl)) hb h1
  obtain ⟨c, d⟩ := St.sk_inv b h
  refine ⟨St.nx_ok h1, ?_⟩
  unfold olay
  show s.l = Wr.be 2 ((s.nx 2).some (s.num 2)).length ++ (s.nx 2).some (s.num 2) ++ ((s.nx 2).sk (s.num 2)).l
  rw [d, List.append_assoc, ← c]
  exact a
theorem St.fx_inv {s : St} (hb : s.Ok) (h : s.fx.e = 0) : s.e = 0 ∧ s.l = (if s.flag then [1] else [0]) ++ s.fx.l := by
  obtain ⟨h1, h2, h3⟩ := St.fail_ok (by decide) h
  obtain ⟨a, b, c⟩ := St.nx_inv (n := 1) (.inl rfl) hb h1
  refine ⟨St.nx_ok h1, ?_⟩
  have e : s.fx = s.nx 1 := h3
  rw [e]
  have hd : ¬ 1 < s.num 1 := by simpa using h2
  unfold St.flag
  have hz : s.num 1 = 0 ∨ s.num 1 = 1 := by omega
  rcases hz with h | h
  · rw [h] at a ⊢; simpa [Wr.be] using a
  · rw [h] at a ⊢; simpa [Wr.be] using a

/-- What is read of bytes that were written, and cut behind k. -/
def Cut (s s' : St) (bs r : List Int) (k : Nat) (Q : Prop) : Prop := (k < bs.length ∧ s'.e = 3) ∨ (bs.length ≤ k ∧ s' = ⟨r.take (k - bs.length), 0⟩ ∧ Q)
theorem St.nx_cut {s : St} {n : Nat} (hn : Sz n) {v : Int} (h0 : 0 ≤ v) (h1 : v < Wr.p256 n) {r : List Int} (hr : Byt r) {k : Nat} (hs : s = ⟨(Wr.be n v ++ r).take k, 0⟩) :
    Cut s (s.nx n) (Wr.be n v) r k (s.num n = v) := by
  have hl := Wr.be_length n v
  have hB : Byt ((Wr.be n v ++ r).take k) := (Byt.append (Wr.be_byt n v) hr).take k
  have hg := getE_sz hn hB
  unfold Cut St.nx St.num
  subst hs
  rw [if_pos rfl, if_pos rfl, hl]
  simp only
  by_cases hk : k < n
  · exact .inl ⟨hk, by rw [hg, if_pos (by simp; omega)]⟩
  · have hle : n ≤ ((Wr.be n v ++ r).take k).length := by simp [hl]; omega
    have hE : Wr.getE ((Wr.be n v ++ r).take k) n = 0 := by rw [hg, if_neg (by omega)]
    have ht : ((Wr.be n v ++ r).take k).take n = Wr.be n v := by
      rw [List.take_take, Nat.min_eq_left (by omega)]
      exact List.take_left' hl
    have hd : ((Wr.be n v ++ r).take k).drop n = r.take (k - n) := by
      rw [List.drop_take, List.drop_left' hl]
    refine .inr ⟨by omega, ?_, ?_⟩
    · rw [hE]
      unfold Wr.getL
      rw [if_pos hE, Int.toNat_natCast, hd]
    · unfold Wr.getV
      rw [if_pos hE, Int.toNat_natCast, ht, Wr.num_be]
      exact Int.emod_eq_of_lt h0 h1
theorem Cut.trans {s s1 s2 : St} {a b r : List Int} {k : Nat} {Q R : Prop} (h : Cut s s1 a (b ++ r) k Q) (hs : s1.e ≠ 0 → s2.e = s1.e) (h2 : Q → s1 = ⟨(b ++ r).take (k - a.length), 0⟩ → Cut s1 s2 b r (k - a.length) R) : Cut s s2 (a ++ b) r k (Q ∧ R) := by
  unfold Cut at h ⊢
  rw [List.length_append]
  rcases h with ⟨h, he⟩ | ⟨h, he, hq⟩
  · exact .inl ⟨by omega, by rw [hs (by rw [he]; decide), he]⟩
  · rcases h2 hq he with ⟨g, ge⟩ | ⟨g, ge, gq⟩
    · exact .inl ⟨by omega, ge⟩
    · exact .inr ⟨by omega, by rw [ge, Nat.sub_sub], hq, gq⟩
theorem Cut.mono {s s' : St} {a r : List Int} {k : Nat} {Q R : Prop} (h : Cut s s' a r k Q) (hq : Q → R) : Cut s s' a r k R := by
  rcases h with h | ⟨h, he, q⟩
  · exact .inl h
  · exact .inr ⟨h, he, hq q⟩
theorem St.ox_cut {s : St} {a : List Int} (ha : a.length < 65536) (hab : Byt a) {r : List Int} (hr : Byt r) {k : Nat} (hs : s = ⟨(olay a ++ r).take k, 0⟩) :
    Cut s s.ox (olay a) r k (s.oct = a) := by
  have h0 : s = ⟨(Wr.be 2 (a.length : Int) ++ (a ++ r)).take k, 0⟩ := by rw [hs]; simp [olay]
  have h1 := St.nx_cut (n := 2) (.inr (.inl rfl)) (by omega) (by rw [show Wr.p256 2 = 65536 by decide]; omega) (Byt.append hab hr) h0
  have h2 : Cut s s.ox (Wr.be 2 (a.length : Int) ++ a) r k (s.num 2 = a.length ∧ s.oct = a) := by
    refine Cut.trans h1 (fun hne => by show ((s.nx 2).sk (s.num 2)).e = _; rw [St.sk_bad hne]) (fun hq he => ?_)
    have e1 : s.ox = (s.nx 2).sk (s.num 2) := rfl
    have e2 : s.oct = (s.nx 2).some (s.num 2) := rfl
    unfold Cut
    rw [e1, e2, hq, he, Wr.be_length]
    unfold St.sk St.some
    rw [if_pos rfl, if_pos rfl]
    simp only
    generalize k - 2 = j
    by_cases hj : j < a.length
    · refine .inl ⟨hj, ?_⟩
      unfold Wr.bytE
      rw [if_neg (by omega), if_pos (by simp; omega)]
    · have hE : Wr.bytE ((a ++ r).take j) (a.length : Int) = 0 := by
        unfold Wr.bytE
        rw [if_neg (by omega), if_neg (by simp; omega)]
      refine .inr ⟨by omega, ?_, ?_⟩
      · unfold Wr.bytL
        rw [hE, if_pos rfl, Int.toNat_natCast, List.drop_take, List.drop_left' rfl]
      · unfold Wr.bytV
        rw [if_pos hE, Int.toNat_natCast, List.take_take, Nat.min_eq_left (by omega), List.take_left' rfl]
  exact h2.mono (fun h => h.2)
theorem St.fx_cut {s : St} (b : Bool) {r : List Int} (hr : Byt r) {k : Nat} (hs : s = ⟨((if b then [1] else [0]) ++ r).take k, 0⟩) :
    Cut s s.fx (if b then [1] else [0]) r k (s.flag = b) := by
  have h0 : s = ⟨(Wr.be 1 (if b then 1 else 0) ++ r).take k, 0⟩ := by rw [hs]; cases b <;> rfl
  have e : Wr.be 1 (if b then 1 else 0) = (if b then [1] else [0] : List Int) := by cases b <;> rfl
  have h1 := St.nx_cut (n := 1) (.inl rfl) (by cases b <;> decide) (by cases b <;> decide) hr h0
  rw [e] at h1
  rcases h1 with ⟨h, he⟩ | ⟨h, he, hq⟩
  · exact .inl ⟨h, by show ((s.nx 1).fail _ 4).e = 3; rw [St.fail_bad (by rw [he]; decide)]; exact he⟩
  · refine .inr ⟨h, ?_, ?_⟩
    · show (s.nx 1).fail _ 4 = _
      have : decide (1 < s.num 1) = false := by rw [hq]; cases b <;> rfl
      rw [this]
      exact he
    · unfold St.flag; rw [hq]; cases b <;> rfl
end Go.Proofs.Ytnphnaggamfoiaa
