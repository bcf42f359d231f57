/- Walks: the writer's Put. -/
import Derived.Test.YtnphnaggamfoiaaW2
namespace Go.Proofs.Ytnphnaggamfoiaa.Wr
open Go.RowKit
set_option linter.unusedVariables false
set_option maxRecDepth 20000
set_option linter.unusedSimpArgs false

def putE (v size : Int) : Int := if size < 1 ∨ 8 < size then 2 else if v < 0 ∨ p256 size.toNat ≤ v then 9 else 0
def putL (xs : List Int) (v size : Int) : List Int := if putE v size = 0 then xs ++ be size.toNat v else xs

theorem be_zero_iff (m : Nat) (u : Int) (h0 : 0 ≤ u) (h1 : u < p256 m) : (∃ x ∈ be m u, x ≠ 0) ↔ u ≠ 0 := by
  constructor
  · rintro ⟨x, hx, hn⟩ rfl
    have : ∀ m, ∀ x ∈ be m 0, x = 0 := by
      intro m
      induction m with
      | zero => intro x hx; simp [be] at hx
      | succ m ih => intro x hx; simp only [be, List.mem_append, List.mem_singleton] at hx; exact hx.elim (fun h => ih x (by simpa using h)) (fun h => by simpa using h)
    exact hn (this m x hx)
  · intro hn
    by_cases hex : ∃ x ∈ be m u, x ≠ 0
    · exact hex
    · exfalso
      have hz : ∀ x ∈ be m u, x = 0 := fun x hx => Classical.byContradiction fun h => hex ⟨x, hx, h⟩
      have h2 := num_be m u
      rw [Int.emod_eq_of_lt h0 h1] at h2
      have h3 : ∀ l : List Int, (∀ x ∈ l, x = 0) → num l = 0 := by
        intro l
        induction l with
        | nil => intro _; rfl
        | cons c l ih =>
          intro h
          have hc := h c (by simp)
          subst hc
          exact ih (fun x hx => h x (by simp [hx]))
      rw [h3 _ hz] at h2
      exact hn h2.symm

theorem p256_add (m n : Nat) : p256 (m + n) = p256 m * p256 n := by simp [p256, Int.pow_add]
theorem p256_8 : p256 8 = 18446744073709551616 := by decide

/-- Whether the bytes ahead of the last n are all none. -/
theorem ahead_zero (v : Int) (k n : Nat) (hkn : k + n = 8) (h0 : 0 ≤ v) (h1 : v < 9223372036854775808) : decide (idxF (be k (v / p256 n)) ≥ 0) = decide (p256 n ≤ v) := by
  have hp := p256_pos n
  have hq := p256_pos k
  have h8 : p256 k * p256 n = 18446744073709551616 := by rw [← p256_add, hkn, p256_8]
  rw [decide_eq_decide, idxF_iff, be_zero_iff]
  · constructor
    · intro h
      refine Int.not_lt.1 fun hlt => h (Int.ediv_eq_zero_of_lt h0 hlt)
    · intro h he
      have := Int.ediv_mul_le v (b := p256 n) (by omega)
      have h2 := Int.lt_ediv_add_one_mul_self v hp
      rw [he] at h2
      omega
  · exact Int.ediv_nonneg h0 (by omega)
  · refine Int.ediv_lt_of_lt_mul hp ?_
    omega

theorem rd_part {w : World} {g : Nat} {t : TypeId} (l1 l2 l3 : List Int) (hb : Blk w g t (bts (l1 ++ l2 ++ l3)).toArray) (n c : Nat) (hn : n = l2.length) (hc : n ≤ c) (hm : c ≤ maxLen) : Rd w (fun i => i = g) 1 (.slice (some ⟨g, l1.length, none⟩) n c) n (bts l2) := by
  subst hn
  refine ⟨by simp [bts], _, c, rfl, hc, hm, fun _ => ⟨g, l1.length, rfl, rfl, fun j u hu => ?_⟩⟩
  rw [hb.cell]
  have hj : j < l2.length := by have := (List.getElem?_eq_some_iff.1 hu).1; simpa [bts] using this
  simp only [bts, List.map_append, List.append_assoc, List.getElem?_toArray]
  rw [List.getElem?_append_right (by simp), List.getElem?_append_left (by simp; omega)]
  simpa [bts] using hu

theorem put_arg (p s : Nat) (v size : Int) (w : World) (hb : Blk w p 98 #[.pointer (some ⟨s, 0, none⟩)]) (h : size < 1 ∨ 8 < size) :
    Calls Try.prog 67 #[.pointer (some ⟨p, 0, none⟩), .int .i64 v, .int .i64 size] w fun e w' => e = .returned (.int .i64 2) ∧ w = w' := by
  have H4 := Lib.hid hb
  rcases h with h | h
  · go_enter Try.func67, Try.ntmps67
    go_wp2_with (go_at_call 68; refine (wnone_any p s w H4.out).mono ?_; rintro e w' ⟨rfl, rfl⟩)
    go_ret
    exact ⟨rfl, rfl⟩
  · have h' : ¬ size < 1 := by omega
    go_enter Try.func67, Try.ntmps67
    go_wp2_with (go_at_call 68; refine (wnone_any p s w H4.out).mono ?_; rintro e w' ⟨rfl, rfl⟩)
    go_ret
    exact ⟨rfl, rfl⟩

theorem be8_parts (v : Int) : ∃ b0 b1 b2 b3 b4 b5 b6 b7, be 8 v = [b0, b1, b2, b3, b4, b5, b6, b7] := ⟨_, _, _, _, _, _, _, _, be8 v⟩

theorem put_neg (p s : Nat) (v size : Int) (w : World) (hb : Blk w p 98 #[.pointer (some ⟨s, 0, none⟩)]) (h1 : 1 ≤ size) (h2 : size ≤ 8) (hv : v < 0) :
    Calls Try.prog 67 #[.pointer (some ⟨p, 0, none⟩), .int .i64 v, .int .i64 size] w fun e w' => e = .returned (.int .i64 9) ∧ Below w.heap.size w w' := by
  have H4 := Lib.hid hb
  obtain ⟨b0, b1, b2, b3, b4, b5, b6, b7, hbe⟩ := be8_parts v
  have HBE := Lib.hid hbe
  clear hbe
  go_enter Try.func67, Try.ntmps67
  go_wp2_with (first
    | (go_at_call 68; refine (wnone_any p s w H4.out).mono ?_; rintro e w' ⟨rfl, rfl⟩)
    | (go_at_call 78; refine (of_any v w).mono ?_; rintro e w1 ⟨rfl, hb1⟩; rw [HBE.out]; simp only [bts, List.map_cons, List.map_nil]))
  go_ret
  exact ⟨rfl, Ba hb1 _⟩

set_option maxHeartbeats 1000000 in
theorem put_fits (S : Nat → Prop) (p : Nat) (xs : List Int) (v : Int) (n k : Nat) (w : World) (h : WrAt w S p xs) (hkn : k + n = 8) (hn : 1 ≤ n) (hv : 0 ≤ v) (hv1 : v < 9223372036854775808) (hl : xs.length + 8 ≤ 140737488355328) (hput : v < p256 n) :
    Calls Try.prog 67 #[.pointer (some ⟨p, 0, none⟩), .int .i64 v, .int .i64 (n : Int)] w (WDid S p (xs ++ be n v) (.int .i64 0) w) := by
  obtain ⟨i0, hi0, hz0, hz1, hz2⟩ := info_parts info5
  obtain ⟨h1, s, A, c, h2, h3, h4, h5, h6, h7⟩ := h
  obtain ⟨x0, f0⟩ := blk1 h4
  obtain ⟨y0, y1, g0, g1⟩ := blk2 h5
  have HP := Lib.hid (fun W w2 v2 (hb : Below w.heap.size w W) (HA : Appended W 0 5 1 (.slice A xs.length c) (xs.length + (be n v).length) (bts xs ++ bts (be n v)) v2 w2) => wr_appended h1 h2 h3 h4 h5 h6 h7 hb HA)
  have H4 := Lib.hid h4
  have H5 := Lib.hid h5
  have HO := Lib.hid h6
  have HL := Lib.hid hl
  clear h4 h5 h6 h7 h1 h2 h3 hl
  obtain ⟨b0, b1, b2, b3, b4, b5, b6, b7, hbe⟩ := be8_parts v
  have HBE := Lib.hid hbe
  have hcat : be k (v / p256 n) ++ be n v = be 8 v := by rw [← be_add, hkn]
  have HCAT := Lib.hid hcat
  have HA0 := Lib.hid (ahead_zero v k n hkn hv hv1)
  clear hbe hcat hv1
  have hk8 : (8 : Int) - (n : Int) = (k : Int) := by omega
  have hk0 : (0 : Int) ≤ (k : Int) := by omega
  have hk1 : (k : Int) ≤ 8 := by omega
  have hk2 : k ≤ 8 := by omega
  have hn1 : ¬ (n : Int) < 1 := by omega
  have hn8 : ¬ (8 : Int) < (n : Int) := by omega
  have hv0 : ¬ v < 0 := by omega
  have HK := Lib.hid hkn
  have HPUT := Lib.hid hput
  clear hkn hn hput hv
  go_enter Try.func67, Try.ntmps67
  go_wp2_with (first
    | (go_at_call 68; refine (wnone_any p s w H4.out).mono ?_; rintro e w' ⟨rfl, rfl⟩)
    | (go_at_call 78; refine (of_any v w).mono ?_; rintro e w1 ⟨rfl, hb1⟩; rw [HBE.out]; simp only [bts, List.map_cons, List.map_nil]; obtain ⟨x0', f0'⟩ := blk1 (H4.out.later hb1); obtain ⟨y0', y1', g0', g1'⟩ := blk2 (H5.out.later hb1); have lp : p < w1.heap.size := Nat.lt_of_lt_of_le H4.out.lt hb1.size; have ls : s < w1.heap.size := Nat.lt_of_lt_of_le H5.out.lt hb1.size))
  have hbk := Blk.new w1 118 (bts (be 8 v)).toArray
  rw [← HCAT.out] at hbk
  have RK := rd_part [] (be k (v / p256 n)) (be n v) (by simpa using hbk) k 8 (be_length _ _).symm hk2 (by simp [maxLen])
  have RN := Lib.hid (rd_part (be k (v / p256 n)) (be n v) [] (by simpa using hbk) n (8 - k) (be_length _ _).symm (by have := HK.out; omega) (by simp only [maxLen]; omega))
  rw [be_length] at RN
  rw [HCAT.out, HBE.out] at RK RN
  simp only [bts, List.map_cons, List.map_nil] at RK RN
  refine (contains_any _ _ (be k (v / p256 n)) _ (by rw [be_length]; exact RK)).mono ?_
  clear RK hbk
  rintro e w' ⟨rfl, rfl⟩
  rw [HA0.out, show decide (p256 n ≤ v) = false by have := HPUT.out; simp; omega]
  go_wp2_with fail
  have hwk : IntKind.i64.wrap (k : Int) = (k : Int) := IntWalk.i64_in _ ⟨by omega, by omega⟩
  have HW := Lib.hid (Bd (Ba hb1 (.cells #[.int .u8 b0, .int .u8 b1, .int .u8 b2, .int .u8 b3, .int .u8 b4, .int .u8 b5, .int .u8 b6, .int .u8 b7] 118)))
  have HX := Lib.hid (be_length n v)
  have HI := Lib.hid (Nat.le_of_add_le_add_left (show 0 + n ≤ 0 + 8 by have := HK.out; omega))
  go_region_law (refine step_append_rd _ rfl (.tmp 38) (.tmp 41) 23 rfl 0 5 i0 _ 1 1 Try.underlying23 hi0 hz0 hz1 hz2 rfl (by omega) (.slice A xs.length c) xs.length (bts xs) (by simp [Act.eval, Act.put]) (own_below HO.out HW.out) (fun i => i = w1.heap.size) (.slice (some ⟨w1.heap.size, k, none⟩) n (8 - k)) n (bts (be n v)) (by simp [Act.eval, Act.put]; have := HK.out; omega) ?_ (bts_one (be n v)) (by have := HL.out; have := HI.out; simp only [maxLen]; omega) (by have := HL.out; have := HI.out; omega) (Nat.zero_le _) ?_; (first | exact RN.out | exact RN.out.below (Bd (B0 _)) (fun i hi => by subst hi; simp)); intro v2 w2 HA; obtain ⟨A2, c2, rfl⟩ := own_slice HA.own; have HBp := Blk.grown (H4.out.later HW.out) HA.grown (own_ne_blk HO.out H4.out (show (5 : TypeId) ≠ 98 by decide)).symm; have HBs := Blk.grown (H5.out.later HW.out) HA.grown (own_ne_blk HO.out H5.out (show (5 : TypeId) ≠ 96 by decide)).symm; obtain ⟨p0, k0⟩ := blk1 HBp; obtain ⟨p1, p2, k1, k2⟩ := blk2 HBs)
  all_goals
    go_wp2
    go_ret
    exact HP.out _ _ _ HW.out (by rw [HX.out]; exact HA)
end Go.Proofs.Ytnphnaggamfoiaa.Wr
