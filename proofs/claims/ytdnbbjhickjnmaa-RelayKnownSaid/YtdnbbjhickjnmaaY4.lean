/- The reference's reader: Get, Bytes. -/
import Derived.Test.YtdnbbjhickjnmaaY3
namespace Go.Proofs.Ytdnbbjhickjnmaa.Wr
open Go.RowKit
set_option maxRecDepth 20000
set_option linter.unusedVariables false
set_option maxRecDepth 20000
set_option linter.unusedSimpArgs false

def FDid (S : Nat → Prop) (p : Nat) (ys : List Int) (w w' : World) : Prop := Mod S w w' ∧ RfAt w' S p ys
theorem fdid_same {S : Nat → Prop} {p : Nat} {ys : List Int} {w w' : World} (h : RfAt w S p ys) (hb : Below w.heap.size w w') : FDid S p ys w w' := ⟨Mod.of_below hb, h.below hb⟩
/-- The number of bytes that were read turns. -/
theorem RfAt.moved {S : Nat → Prop} {p : Nat} {W : World} {A : Option Addr} {c : Nat} {pre zs rs : List Int} (hS : ∀ i, S i → i < W.heap.size) (hl : pre.length + (zs ++ rs).length ≤ 140737488355328) (h2 : S p) (h4 : Blk W p 133 #[.slice A (pre.length + (zs ++ rs).length) c, .int .i64 pre.length])
    (h6 : W.ownsRow 0 5 1 (.slice A (pre.length + (zs ++ rs).length) c) (pre.length + (zs ++ rs).length) (bts (pre ++ (zs ++ rs)))) (h7 : ∀ k, (Value.slice A (pre.length + (zs ++ rs).length) c).ownBlock = some k → S k) (x : Int) (hx : x = (pre.length : Int) + zs.length) :
    RfAt (W.setCell ⟨p, 1, none⟩ (.int .i64 x)) S p rs := by
  have e1 : pre.length + (zs ++ rs).length = (pre ++ zs).length + rs.length := by simp; omega
  have e2 : pre ++ (zs ++ rs) = (pre ++ zs) ++ rs := by simp
  rw [e1] at hl h4 h6 h7
  rw [e2] at h6
  refine ⟨by simpa using hS, A, c, pre ++ zs, hl, h2, ?_, ?_, h7⟩
  · have := h4.set_ 1 (.int .i64 x)
    rw [show ((pre ++ zs).length : Int) = x by rw [hx]; simp]
    simpa using this
  · refine own_mod h6 ((Mod.refl (fun k => k = p) W).setCell (.inl rfl) _) ?_ (Nat.le_refl _)
    intro k hk e
    subst e
    rcases h6.2 with ⟨hv, _⟩ | ⟨g, cap, cur, hv, _, hh, _⟩
    · rw [hv] at hk; simp [Value.ownBlock] at hk
    · rw [hv] at hk
      have : g = k := by simpa [Value.ownBlock] using hk
      subst this
      exact Blk.ne_ (t := 5) hh h4 (show (5 : TypeId) ≠ 133 by decide) rfl

theorem RfAt.mid {w : World} {g c : Nat} {pre zs rs : List Int} (h : w.ownsRow 0 5 1 (.slice (some ⟨g, 0, none⟩) (pre.length + (zs.length + rs.length)) c) (pre.length + (zs.length + rs.length)) (bts (pre ++ (zs ++ rs)))) (c' : Nat) (hc : c' = c - pre.length) :
    Rd w (fun k => k = g) 1 (.slice (some ⟨g, pre.length, none⟩) zs.length c') zs.length (bts zs) := by
  have h0 := Rd.of_own h
  have hc2 := h0.cap
  refine ⟨by simp [bts], _, c', rfl, by omega, by omega, fun hn => ⟨g, pre.length, rfl, rfl, fun j u hu => ?_⟩⟩
  have hj : j < zs.length := by have := (List.getElem?_eq_some_iff.1 hu).1; simpa [bts] using this
  obtain ⟨g', o, he, hs, hcc⟩ := h0.some_ (by omega)
  injection he with he
  injection he with e1 e2
  subst e1 e2
  have := hcc (pre.length + j) u (by
    rw [show bts (pre ++ (zs ++ rs)) = bts pre ++ (bts zs ++ bts rs) by simp [bts], List.getElem?_append_right (by simp [bts]), List.getElem?_append_left (by simp [bts]; omega)]
    simpa [bts] using hu)
  simpa using this

set_option maxHeartbeats 2000000 in
theorem uget_okr (S : Nat → Prop) (p : Nat) (A : Option Addr) (c : Nat) (pre zs rs : List Int) (w : World) (hl : pre.length + (zs.length + rs.length) ≤ 140737488355328) (h4 : Blk w p 133 #[.slice A (pre.length + (zs.length + rs.length)) c, .int .i64 pre.length])
    (h6 : w.ownsRow 0 5 1 (.slice A (pre.length + (zs.length + rs.length)) c) (pre.length + (zs.length + rs.length)) (bts (pre ++ (zs ++ rs)))) (h1 : 1 ≤ zs.length) (h8 : zs.length ≤ 8) (hb : Byt zs) (hU : RfAt w S p (zs ++ rs)) (r : Bool) (hr : unumB zs = r) (v : Int) (hvv : unumV zs = v) :
    Calls Try.prog 67 #[.pointer (some ⟨p, 0, none⟩), .int .i64 zs.length] w fun e w' => e = .returned (.tuple #[.int .i64 (if r then v else 0), .int .i64 (if r then 0 else 9)]) ∧ ∃ W, Below w.heap.size w W ∧ w' = if r then W.setCell ⟨p, 1, none⟩ (.int .i64 ((pre.length : Int) + zs.length)) else W := by
  have HB := Lib.hid h4
  have HO := Lib.hid h6
  have HU := Lib.hid hU
  have HBY := Lib.hid hb
  have hcap := (Rd.of_own h6).cap.2
  unfold maxLen at hcap
  obtain ⟨g, cc, hv, _⟩ := h6.form (by omega)
  injection hv with hv1 hv2 hv3
  subst hv1
  have q1 : (1 : Int) ≤ (zs.length : Int) := by omega
  have q8 : (zs.length : Int) ≤ 8 := by omega
  have q9 : (decide (0 < (zs.length : Int)) && decide ((zs.length : Int) < 9)) = true := by simp; omega
  have q10 : ((zs ++ rs).length : Int) = (zs.length : Int) + (rs.length : Int) := by simp
  have Q10 := Lib.hid q10
  clear h4 h6 hb hU hv2 hv3 q10
  cases r
  · go_enter Try.func67, Try.ntmps67
    go_wp2_with fail
    refine (usize_any _ _).mono ?_
    rintro e w' ⟨rfl, rfl⟩
    rw [q9]
    go_wp2_with fail
    refine (uleft_any S p (zs ++ rs) _ HU.out).mono ?_
    rintro e w1 ⟨rfl, hw1⟩
    rw [Q10.out]
    have hb1 : Below w.heap.size w w1 := by obtain ⟨n, rfl⟩ := hw1; exact BdN (B0 w) n
    have HB1 := Lib.hid (HB.out.later hb1)
    have HO1 := Lib.hid (own_below HO.out hb1)
    have HBW := Lib.hid hb1
    obtain ⟨x0, x1, f0, f1⟩ := blk2 HB1.out
    have lp1 := HB1.out.lt
    have hq : ¬ ((zs.length : Int) + (rs.length : Int) < (zs.length : Int)) := by omega
    have hk0 : (0 : Int) ≤ (pre.length : Int) := by omega
    have hk1 : (pre.length : Int) + (zs.length : Int) ≤ (c : Int) := by omega
    have hk2 : IntKind.i64.wrap ((pre.length : Int) + (zs.length : Int)) = (pre.length : Int) + (zs.length : Int) := by rw [IntKind.wrap_i64]; omega
    have hk3 : (pre.length : Int) < (c : Int) := by omega
    have hk4 : ¬ c = pre.length := by omega
    have hk5 : (0 : Int) ≤ (pre.length : Int) + (zs.length : Int) := by omega
    have hk6 : ((pre.length : Int) + (zs.length : Int)).toNat = pre.length + zs.length := by omega
    have hk7 : (pre.length : Int) ≤ (pre.length : Int) + (zs.length : Int) := by omega
    have hk8 : pre.length ≤ pre.length + zs.length := by omega
    have hk9 : pre.length + zs.length ≤ c := by omega
    clear hw1 hb1 q9
    go_wp2_with fail
    go_region_held3 (fun w' => w'.cell? ⟨p, 0, none⟩ = some (.slice (some ⟨g, 0, none⟩) (pre.length + (zs.length + rs.length)) c) ∧ w'.cell? ⟨p, 1, none⟩ = some (.int .i64 pre.length)) (first | (exact ⟨hx2.cell 0, hx2.cell 1⟩) | go_keep)
      ((go_at_call 87; refine (unum_any (fun k => k = g) _ _ zs _ ((RfAt.mid HO1.out _ rfl).below (Bd (B0 w1)) (fun i hi => by subst hi; exact own_lt HO1.out _ rfl)) HBY.out).mono ?_; rintro e w2 ⟨rfl, hw2⟩; rw [hvv, hr]; have hb2 : Below w1.heap.size w1 w2 := (by obtain ⟨n, rfl⟩ := hw2; exact BdN (Bd (B0 w1)) n); have hx2 := HB1.out.later hb2))
    have HX2 := Lib.hid hx2
    have HW2 := Lib.hid (Bt HBW.out hb2)
    obtain ⟨y0, y1, z0, z1⟩ := blk2 HX2.out
    have lp2 := HX2.out.lt
    clear hb2 hx2 hw2
    go_wp2_with fail
    go_ret2
    first | exact ⟨rfl, w2, HW2.out, rfl⟩ | exact ⟨rfl, HW2.out⟩
  · go_enter Try.func67, Try.ntmps67
    go_wp2_with fail
    refine (usize_any _ _).mono ?_
    rintro e w' ⟨rfl, rfl⟩
    rw [q9]
    go_wp2_with fail
    refine (uleft_any S p (zs ++ rs) _ HU.out).mono ?_
    rintro e w1 ⟨rfl, hw1⟩
    rw [Q10.out]
    have hb1 : Below w.heap.size w w1 := by obtain ⟨n, rfl⟩ := hw1; exact BdN (B0 w) n
    have HB1 := Lib.hid (HB.out.later hb1)
    have HO1 := Lib.hid (own_below HO.out hb1)
    have HBW := Lib.hid hb1
    obtain ⟨x0, x1, f0, f1⟩ := blk2 HB1.out
    have lp1 := HB1.out.lt
    have hq : ¬ ((zs.length : Int) + (rs.length : Int) < (zs.length : Int)) := by omega
    have hk0 : (0 : Int) ≤ (pre.length : Int) := by omega
    have hk1 : (pre.length : Int) + (zs.length : Int) ≤ (c : Int) := by omega
    have hk2 : IntKind.i64.wrap ((pre.length : Int) + (zs.length : Int)) = (pre.length : Int) + (zs.length : Int) := by rw [IntKind.wrap_i64]; omega
    have hk3 : (pre.length : Int) < (c : Int) := by omega
    have hk4 : ¬ c = pre.length := by omega
    have hk5 : (0 : Int) ≤ (pre.length : Int) + (zs.length : Int) := by omega
    have hk6 : ((pre.length : Int) + (zs.length : Int)).toNat = pre.length + zs.length := by omega
    have hk7 : (pre.length : Int) ≤ (pre.length : Int) + (zs.length : Int) := by omega
    have hk8 : pre.length ≤ pre.length + zs.length := by omega
    have hk9 : pre.length + zs.length ≤ c := by omega
    clear hw1 hb1 q9
    go_wp2_with fail
    go_region_held3 (fun w' => w'.cell? ⟨p, 0, none⟩ = some (.slice (some ⟨g, 0, none⟩) (pre.length + (zs.length + rs.length)) c) ∧ w'.cell? ⟨p, 1, none⟩ = some (.int .i64 pre.length)) (first | (exact ⟨hx2.cell 0, hx2.cell 1⟩) | go_keep)
      ((go_at_call 87; refine (unum_any (fun k => k = g) _ _ zs _ ((RfAt.mid HO1.out _ rfl).below (Bd (B0 w1)) (fun i hi => by subst hi; exact own_lt HO1.out _ rfl)) HBY.out).mono ?_; rintro e w2 ⟨rfl, hw2⟩; rw [hvv, hr]; have hb2 : Below w1.heap.size w1 w2 := (by obtain ⟨n, rfl⟩ := hw2; exact BdN (Bd (B0 w1)) n); have hx2 := HB1.out.later hb2))
    have HX2 := Lib.hid hx2
    have HW2 := Lib.hid (Bt HBW.out hb2)
    obtain ⟨y0, y1, z0, z1⟩ := blk2 HX2.out
    have lp2 := HX2.out.lt
    clear hb2 hx2 hw2
    go_wp2_with fail
    go_ret2
    first | exact ⟨rfl, w2, HW2.out, rfl⟩ | exact ⟨rfl, HW2.out⟩
theorem uget_ok (S : Nat → Prop) (p : Nat) (A : Option Addr) (c : Nat) (pre zs rs : List Int) (w : World) (hl : pre.length + (zs.length + rs.length) ≤ 140737488355328) (h4 : Blk w p 133 #[.slice A (pre.length + (zs.length + rs.length)) c, .int .i64 pre.length])
    (h6 : w.ownsRow 0 5 1 (.slice A (pre.length + (zs.length + rs.length)) c) (pre.length + (zs.length + rs.length)) (bts (pre ++ (zs ++ rs)))) (h1 : 1 ≤ zs.length) (h8 : zs.length ≤ 8) (hb : Byt zs) (hU : RfAt w S p (zs ++ rs)) :
    Calls Try.prog 67 #[.pointer (some ⟨p, 0, none⟩), .int .i64 zs.length] w fun e w' => e = .returned (.tuple #[.int .i64 (unumV zs), .int .i64 (if unumB zs then 0 else 9)]) ∧ ∃ W, Below w.heap.size w W ∧ w' = if unumB zs then W.setCell ⟨p, 1, none⟩ (.int .i64 ((pre.length : Int) + zs.length)) else W := by
  refine (uget_okr S p A c pre zs rs w hl h4 h6 h1 h8 hb hU (unumB zs) rfl (unumV zs) rfl).mono ?_
  rintro e w' ⟨he, hw⟩
  refine ⟨?_, hw⟩
  rw [he]
  cases hu : unumB zs
  · have hv0 : unumV zs = 0 := by
      have : ¬ num zs < 9223372036854775808 := by simpa [unumB] using hu
      unfold unumV
      rw [if_neg this]
    rw [hv0]; rfl
  · rfl

theorem uget_bad (S : Nat → Prop) (p : Nat) (ys : List Int) (size : Int) (w : World) (h : RfAt w S p ys) (hs : size < 1 ∨ 8 < size) :
    Calls Try.prog 67 #[.pointer (some ⟨p, 0, none⟩), .int .i64 size] w fun e w' => e = .returned (.tuple #[.int .i64 0, .int .i64 2]) ∧ Below w.heap.size w w' := by
  have q9 : (decide (0 < size) && decide (size < 9)) = false := by simp; omega
  clear h
  go_enter Try.func67, Try.ntmps67
  go_wp2_with fail
  refine (usize_any _ _).mono ?_
  rintro e w' ⟨rfl, rfl⟩
  rw [q9]
  go_wp2_with fail
  go_ret2
  exact ⟨rfl, B0 w⟩
theorem uget_short (S : Nat → Prop) (p : Nat) (ys : List Int) (size : Int) (w : World) (h : RfAt w S p ys) (h1 : 1 ≤ size) (h8 : size ≤ 8) (hl : (ys.length : Int) < size) :
    Calls Try.prog 67 #[.pointer (some ⟨p, 0, none⟩), .int .i64 size] w fun e w' => e = .returned (.tuple #[.int .i64 0, .int .i64 3]) ∧ Below w.heap.size w w' := by
  have q9 : (decide (0 < size) && decide (size < 9)) = true := by simp; omega
  have H := Lib.hid h
  clear h
  go_enter Try.func67, Try.ntmps67
  go_wp2_with fail
  refine (usize_any _ _).mono ?_
  rintro e w' ⟨rfl, rfl⟩
  rw [q9]
  go_wp2_with fail
  refine (uleft_any S p ys _ H.out).mono ?_
  rintro e w1 ⟨rfl, hw1⟩
  have hb1 : Below w.heap.size w w1 := by obtain ⟨n, rfl⟩ := hw1; exact BdN (B0 w) n
  clear hw1
  go_wp2_with fail
  go_ret2
  exact ⟨rfl, hb1⟩

theorem uget_any (S : Nat → Prop) (p : Nat) (ys : List Int) (size : Int) (w : World) (h : RfAt w S p ys) (hb : Byt ys) :
    Calls Try.prog 67 #[.pointer (some ⟨p, 0, none⟩), .int .i64 size] w fun e w' => e = .returned (.tuple #[.int .i64 (getV ys size), .int .i64 (getE ys size)]) ∧ FDid S p (getL ys size) w w' := by
  by_cases ha : size < 1 ∨ 8 < size
  · have he : getE ys size = 2 := by simp [getE, ha]
    have hv : getV ys size = 0 := by simp [getV, he]
    have hl : getL ys size = ys := by simp [getL, he]
    rw [he, hv, hl]
    exact (uget_bad S p ys size w h ha).mono fun e w' ⟨he, hb⟩ => ⟨he, fdid_same h hb⟩
  · by_cases hs : (ys.length : Int) < size
    · have he : getE ys size = 3 := by simp [getE, ha, hs]
      have hv : getV ys size = 0 := by simp [getV, he]
      have hl : getL ys size = ys := by simp [getL, he]
      rw [he, hv, hl]
      exact (uget_short S p ys size w h (by omega) (by omega) hs).mono fun e w' ⟨he, hb⟩ => ⟨he, fdid_same h hb⟩
    · obtain ⟨n, rfl⟩ := Int.eq_ofNat_of_zero_le (show 0 ≤ size by omega)
      have hz : (ys.take n).length = n := by simp; omega
      have e : ys = ys.take n ++ ys.drop n := (List.take_append_drop n ys).symm
      obtain ⟨zs, hzs⟩ : ∃ zs, zs = ys.take n := ⟨_, rfl⟩
      obtain ⟨rs, hrs⟩ : ∃ rs, rs = ys.drop n := ⟨_, rfl⟩
      rw [← hzs] at hz
      rw [← hzs, ← hrs] at e
      have hge : getE ys (n : Int) = if unumB zs then 0 else 9 := by
        unfold getE unumB
        rw [if_neg ha, if_neg hs, Int.toNat_natCast, ← hzs]
        by_cases h : 9223372036854775808 ≤ num zs
        · rw [if_pos h, if_neg (by simp; omega)]
        · rw [if_neg h, if_pos (by simp; omega)]
      have hgv : getV ys (n : Int) = unumV zs := by
        unfold getV unumV
        rw [hge, Int.toNat_natCast, ← hzs]
        cases hu : unumB zs
        · have : ¬ num zs < 9223372036854775808 := by simpa [unumB] using hu
          rw [if_neg (by decide), if_neg this]
        · have : num zs < 9223372036854775808 := by simpa [unumB] using hu
          rw [if_pos this]; simp
      have hgl : getL ys (n : Int) = if unumB zs then rs else ys := by
        unfold getL
        rw [hge, Int.toNat_natCast, ← hrs]
        cases unumB zs <;> simp
      rw [hge, hgv, hgl]
      have h' := h
      rw [e] at h'
      obtain ⟨h1, A, c, pre, hl, h2, h4, h6, h7⟩ := h'
      have e2 : (zs ++ rs).length = zs.length + rs.length := by simp
      have hl0 := hl
      have h40 := h4
      have h60 := h6
      have h70 := h7
      rw [e2] at hl h4 h6
      subst hz
      refine (uget_ok S p A c pre zs rs w hl h4 h6 (by omega) (by omega) (hzs ▸ hb.take _) (e ▸ h)).mono ?_
      rintro e' w' ⟨rfl, W, hW, rfl⟩
      refine ⟨rfl, ?_⟩
      cases hu : unumB zs
      · simp only [Bool.false_eq_true, if_false]
        exact fdid_same h hW
      · simp only [if_true]
        exact ⟨(Mod.of_below hW).setCell (.inl h2) _, RfAt.moved (fun i hi => Nat.lt_of_lt_of_le (h1 i hi) hW.size) hl0 h2 (h40.later hW) (own_below h60 hW) h70 _ rfl⟩
end Go.Proofs.Ytdnbbjhickjnmaa.Wr
