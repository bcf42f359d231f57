/- Walks: the reader's Get, refused and whole. -/
import Derived.Test.YtnphnaggamfoiaaW6
namespace Go.Proofs.Ytnphnaggamfoiaa.Wr
open Go.RowKit
set_option linter.unusedVariables false
set_option maxRecDepth 20000
set_option linter.unusedSimpArgs false

set_option maxHeartbeats 1000000 in
theorem get_range (S : Nat → Prop) (p : Nat) (zs rs : List Int) (n k : Nat) (w : World) (h : RdAt w S p (zs ++ rs)) (hb : Byt zs) (hz : zs.length = n) (hkn : k + n = 8) (hn : 1 ≤ n) (hv : 9223372036854775808 ≤ num zs) :
    Calls Try.prog 70 #[.pointer (some ⟨p, 0, none⟩), .int .i64 (n : Int)] w fun e w' => e = .returned (.tuple #[.int .i64 0, .int .i64 9]) ∧ Below w.heap.size w w' := by
  obtain ⟨s, A, c, pre, h1, hl, h2, h3, h4, h5, h6, h7⟩ := h
  obtain ⟨x0, f0⟩ := blk1 h4
  obtain ⟨y0, y1, g0, g1⟩ := blk2 h5
  have lp := h4.lt
  have ls := h5.lt
  have H4 := Lib.hid h4
  have H5 := Lib.hid h5
  have H6 := Lib.hid h6
  obtain ⟨V, hV⟩ : ∃ V, V = num zs := ⟨_, rfl⟩
  have hV0 : 0 ≤ V := by rw [hV]; exact num_nonneg hb
  have hV1 : 9223372036854775808 ≤ V := by rw [hV]; exact hv
  have hV2 : V < 18446744073709551616 := by
    have h1 := num_lt hb
    have h2 : p256 k * p256 zs.length = 18446744073709551616 := by rw [hz, ← p256_add, hkn, p256_8]
    have h3 := p256_pos k
    have h4 := p256_pos zs.length
    rw [← hV] at h1
    have h5 : 1 * p256 zs.length ≤ p256 k * p256 zs.length := Int.mul_le_mul_of_nonneg_right (by omega) (by omega)
    omega
  have hsh : (V / 9223372036854775808 == 1) = true := by simp; omega
  have HV := Lib.hid hV
  clear hV hv
  have HH := Lib.hid (show RdAt w S p (zs ++ rs) from ⟨s, A, c, pre, h1, hl, h2, h3, h4, h5, h6, h7⟩)
  have H7 := Lib.hid (And.intro h1 (And.intro h2 (And.intro h3 h7)))
  have HZ := Lib.hid (And.intro hz hb)
  clear h4 h5 h6 h7 h1 h2 h3 hb
  have hlen : ((zs ++ rs).length : Int) = (n : Int) + (rs.length : Int) := by simp [hz]
  have HLN := Lib.hid hlen
  clear hlen hz
  have hk8 : (8 : Int) - (n : Int) = (k : Int) := by omega
  have hk0 : (0 : Int) ≤ (k : Int) := by omega
  have hk1 : (k : Int) ≤ 8 := by omega
  have hk2 : k ≤ 8 := by omega
  have hn1 : ¬ (n : Int) < 1 := by omega
  have hn8 : ¬ (8 : Int) < (n : Int) := by omega
  have hwk : IntKind.i64.wrap (k : Int) = (k : Int) := IntWalk.i64_in _ ⟨by omega, by omega⟩
  have hlt : ¬ (n : Int) + (rs.length : Int) < (n : Int) := by omega
  have HK := Lib.hid (And.intro hkn hn)
  clear hkn hn
  go_enter Try.func70, Try.ntmps70
  go_wp2_with (first
    | (go_at_call 72; refine (rnone_any p s w H4.out).mono ?_; rintro e w' ⟨rfl, rfl⟩)
    | (go_at_call 50; refine (left_any S p (zs ++ rs) w HH.out).mono ?_; rintro e w1 ⟨rfl, hw1⟩; have hb1 : Below w.heap.size w w1 := (by obtain ⟨n, rfl⟩ := hw1; exact BdN (B0 w) n); clear hw1; rw [HLN.out]; obtain ⟨x0', f0'⟩ := blk1 (H4.out.later hb1); obtain ⟨y0', y1', g0', g1'⟩ := blk2 (H5.out.later hb1); have lp' : p < w1.heap.size := Nat.lt_of_lt_of_le lp hb1.size; have ls' : s < w1.heap.size := Nat.lt_of_lt_of_le ls hb1.size))
  go_region_law (first
    | (go_simp; go_at_call 73; refine (rest_any s A c pre (zs ++ rs) _ (H5.out.later (by repeat (first | exact hb1 | apply Bd | apply BdN | apply Ba))) (own_below H6.out (by repeat (first | exact hb1 | apply Bd | apply BdN | apply Ba))) hl).mono ?_; rintro e w' ⟨A', c', rfl, HR, nr, rfl⟩; replace HR := Lib.hid HR)
    | (refine step_copy_at rfl (.tmp 22) (.tmp 27) 23 23 rfl 5 Try.underlying23 (by kernel_rfl) w1.heap.size k n (8 - k) (zs ++ rs).length c' A' (by simp [Act.eval, Act.put]; have := HK.out; omega) (by simp [Act.eval, Act.put]) _ 118 (Blk.new w1 118 #[.int .u8 0, .int .u8 0, .int .u8 0, .int .u8 0, .int .u8 0, .int .u8 0, .int .u8 0, .int .u8 0]) _ (bts zs) (bts rs) (by rw [← bts_append]; exact HR.out) (bts_one zs) (by rw [bts_length]; exact HZ.out.1) (by have := HK.out; omega) (by have := HK.out; simp; omega) ?_; intro w2 HB2 HM2))
  all_goals
    rw [zeros_part k n zs HK.out.1] at HB2
    obtain ⟨c0, c1, c2, c3, c4, c5, c6, c7, hL⟩ := eight (List.replicate k 0 ++ zs) (by have := HK.out; have := HZ.out; simp; omega)
    have hLb := byt_zeros k zs HZ.out.2
    have hLn := num_zeros k zs
    rw [← HV.out] at hLn
    rw [hL] at HB2 hLb hLn
    have HL := Lib.hid hLn
    have hw : 118 = 118 := rfl
    obtain ⟨q0, q1, q2, q3, q4, q5, q6, q7⟩ := blk8 HB2
    have hc := Lib.hid (fun (x : Int) (hx : x ∈ [c0, c1, c2, c3, c4, c5, c6, c7]) => hLb x hx)
    have hb2 : Below w.heap.size w w2 := Bm (by repeat (first | exact hb1 | apply Bd | apply BdN | apply Ba)) HM2 (fun i hi => by subst hi; exact hb1.size)
    obtain ⟨x0'', f0''⟩ := blk1 (H4.out.later hb2)
    obtain ⟨y0'', y1'', g0'', g1''⟩ := blk2 (H5.out.later hb2)
    have lp2 : p < w2.heap.size := Nat.lt_of_lt_of_le lp hb2.size
    have ls2 : s < w2.heap.size := Nat.lt_of_lt_of_le ls hb2.size
    clear hL hLb hLn
    go_wp2_with (go_at_call 81; refine (value_walk c0 c1 c2 c3 c4 c5 c6 c7 _ (hc.out _ (by simp)) (hc.out _ (by simp)) (hc.out _ (by simp)) (hc.out _ (by simp)) (hc.out _ (by simp)) (hc.out _ (by simp)) (hc.out _ (by simp)) (hc.out _ (by simp))).mono ?_; rintro e w3 ⟨rfl, hb3⟩; rw [HL.out]; obtain ⟨x0t, f0t⟩ := blk1 (H4.out.later (Bt hb2 hb3)); obtain ⟨y0t, y1t, g0t, g1t⟩ := blk2 (H5.out.later (Bt hb2 hb3)); have lp3 : p < w3.heap.size := Nat.lt_of_lt_of_le lp (Bt hb2 hb3).size; have ls3 : s < w3.heap.size := Nat.lt_of_lt_of_le ls (Bt hb2 hb3).size)
    go_ret2
    exact ⟨rfl, Bt hb2 hb3⟩

theorem get_arg (S : Nat → Prop) (p : Nat) (ys : List Int) (size : Int) (w : World) (h : RdAt w S p ys) (ha : size < 1 ∨ 8 < size) :
    Calls Try.prog 70 #[.pointer (some ⟨p, 0, none⟩), .int .i64 size] w fun e w' => e = .returned (.tuple #[.int .i64 0, .int .i64 2]) ∧ Below w.heap.size w w' := by
  obtain ⟨s, A, c, pre, h1, hl, h2, h3, h4, h5, h6, h7⟩ := h
  have H4 := Lib.hid h4
  clear h1 hl h2 h3 h4 h5 h6 h7
  rcases ha with h | h
  · go_enter Try.func70, Try.ntmps70
    go_wp2_with (go_at_call 72; refine (rnone_any p s w H4.out).mono ?_; rintro e w' ⟨rfl, rfl⟩)
    go_ret2
    exact ⟨rfl, B0 w⟩
  · have h' : ¬ size < 1 := by omega
    go_enter Try.func70, Try.ntmps70
    go_wp2_with (go_at_call 72; refine (rnone_any p s w H4.out).mono ?_; rintro e w' ⟨rfl, rfl⟩)
    go_ret2
    exact ⟨rfl, B0 w⟩

theorem get_short (S : Nat → Prop) (p : Nat) (ys : List Int) (size : Int) (w : World) (h : RdAt w S p ys) (ha : 1 ≤ size) (hb : size ≤ 8) (hl : (ys.length : Int) < size) :
    Calls Try.prog 70 #[.pointer (some ⟨p, 0, none⟩), .int .i64 size] w fun e w' => e = .returned (.tuple #[.int .i64 0, .int .i64 3]) ∧ Below w.heap.size w w' := by
  have HH := Lib.hid h
  obtain ⟨s, A, c, pre, h1, hl', h2, h3, h4, h5, h6, h7⟩ := h
  have H4 := Lib.hid h4
  clear h1 hl' h2 h3 h4 h5 h6 h7
  have ha' : ¬ size < 1 := by omega
  have hb' : ¬ 8 < size := by omega
  go_enter Try.func70, Try.ntmps70
  go_wp2_with (first
    | (go_at_call 72; refine (rnone_any p s w H4.out).mono ?_; rintro e w' ⟨rfl, rfl⟩)
    | (go_at_call 50; refine (left_any S p ys w HH.out).mono ?_; rintro e w' ⟨rfl, nq, rfl⟩))
  go_ret2
  exact ⟨rfl, BdN (B0 w) nq⟩

def getE (ys : List Int) (size : Int) : Int := if size < 1 ∨ 8 < size then 2 else if (ys.length : Int) < size then 3 else if 9223372036854775808 ≤ num (ys.take size.toNat) then 9 else 0
def getV (ys : List Int) (size : Int) : Int := if getE ys size = 0 then num (ys.take size.toNat) else 0
def getL (ys : List Int) (size : Int) : List Int := if getE ys size = 0 then ys.drop size.toNat else ys

theorem rdid_same {S : Nat → Prop} {p : Nat} {ys : List Int} {w w' : World} (h : RdAt w S p ys) (hb : Below w.heap.size w w') : RDid S p ys w w' := ⟨Mod.of_below hb, h.below hb⟩

theorem get_any (S : Nat → Prop) (p : Nat) (ys : List Int) (size : Int) (w : World) (h : RdAt w S p ys) (hb : Byt ys) :
    Calls Try.prog 70 #[.pointer (some ⟨p, 0, none⟩), .int .i64 size] w fun e w' => e = .returned (.tuple #[.int .i64 (getV ys size), .int .i64 (getE ys size)]) ∧ RDid S p (getL ys size) w w' := by
  by_cases ha : size < 1 ∨ 8 < size
  · have he : getE ys size = 2 := by simp [getE, ha]
    rw [getV, getL, he]
    refine (get_arg S p ys size w h ha).mono ?_
    rintro e w' ⟨rfl, hb'⟩
    exact ⟨rfl, rdid_same h hb'⟩
  · by_cases hs : (ys.length : Int) < size
    · have he : getE ys size = 3 := by simp [getE, ha, hs]
      rw [getV, getL, he]
      refine (get_short S p ys size w h (by omega) (by omega) hs).mono ?_
      rintro e w' ⟨rfl, hb'⟩
      exact ⟨rfl, rdid_same h hb'⟩
    · obtain ⟨n, rfl⟩ := Int.eq_ofNat_of_zero_le (show 0 ≤ size by omega)
      obtain ⟨k, hk⟩ : ∃ k, k + n = 8 := ⟨8 - n, by omega⟩
      have hz : (ys.take n).length = n := by simp; omega
      have h' : RdAt w S p (ys.take n ++ ys.drop n) := by rw [List.take_append_drop]; exact h
      have hb' : Byt (ys.take n) := fun x hx => hb x (List.mem_of_mem_take hx)
      by_cases hv : 9223372036854775808 ≤ num (ys.take n)
      · have he : getE ys n = 9 := by simp [getE, ha, hs, hv]
        rw [getV, getL, he]
        refine (get_range S p _ _ n k w h' hb' hz hk (by omega) hv).mono ?_
        rintro e w' ⟨rfl, hb'⟩
        exact ⟨rfl, rdid_same h hb'⟩
      · have he : getE ys n = 0 := by simp [getE, ha, hs, hv]
        rw [getV, getL, he, if_pos rfl, if_pos rfl]
        obtain ⟨s, A, c, pre, ho⟩ := h'
        refine (get_ok S p s A c pre _ _ n k w ho hb' hz hk (by omega) (by simpa using hv)).mono ?_
        rintro e w' ⟨rfl, W, hW, rfl⟩
        exact ⟨rfl, ho.mod_ hW _, s, A, c, pre ++ ys.take n, (ho.below hW).moved (by simp) _ (by simp; omega)⟩
end Go.Proofs.Ytnphnaggamfoiaa.Wr
