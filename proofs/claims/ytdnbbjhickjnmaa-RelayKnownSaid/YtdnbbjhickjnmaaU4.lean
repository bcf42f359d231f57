/- The reference's writer: Put of a number that is not below zero. -/
import Derived.Test.YtdnbbjhickjnmaaU3
namespace Go.Proofs.Ytdnbbjhickjnmaa.Wr
open Go.RowKit
set_option maxRecDepth 20000
set_option linter.unusedVariables false
set_option maxRecDepth 20000
set_option linter.unusedSimpArgs false

theorem info27 : (Try.prog.info? 29).map (fun i => (i.zero, i.size, i.bytes)) = some (some (.slice none 0 0), 1, 24) := by kernel_rfl
theorem bit_top (v : Int) (r : Nat) (h0 : 0 ≤ v) (h : v < 2 ^ (r + 1)) : (v / 2 ^ r % 2 = 1 ∧ 2 ^ r ≤ v) ∨ (v / 2 ^ r % 2 = 0 ∧ v < 2 ^ r) := by
  have hp := pow2_pos r
  rw [Int.pow_succ] at h
  have h1 : v / 2 ^ r < 2 := Int.ediv_lt_of_lt_mul hp (by omega)
  have h2 : 0 ≤ v / 2 ^ r := Int.ediv_nonneg h0 (by omega)
  have h3 := Int.ediv_mul_le v (b := 2 ^ r) (by omega)
  have h4 := Int.lt_ediv_add_one_mul_self v hp
  have hq : v / 2 ^ r = 0 ∨ v / 2 ^ r = 1 := by omega
  rcases hq with hq | hq
  · right; rw [hq] at h4 ⊢; exact ⟨rfl, by omega⟩
  · left; rw [hq] at h3 ⊢; exact ⟨rfl, by omega⟩
theorem pow2_le {a b : Nat} (h : a ≤ b) : (2 : Int) ^ a ≤ 2 ^ b := by
  obtain ⟨d, rfl⟩ : ∃ d, b = a + d := ⟨b - a, by omega⟩
  rw [Int.pow_add]
  have h1 := pow2_pos a
  have h2 := pow2_pos d
  have : (2 : Int) ^ a * 1 ≤ 2 ^ a * 2 ^ d := Int.mul_le_mul_of_nonneg_left (by omega) (by omega)
  omega

theorem rd_ints {w : World} {g : Nat} {l : List Int} (hB : Blk w g 3 (ints l).toArray) (j c : Nat) (h : j + 8 ≤ l.length) (hc : 8 ≤ c) (hm : c ≤ maxLen) : Rd w (fun i => i = g) 1 (.slice (some ⟨g, j, none⟩) 8 c) 8 (ints ((l.drop j).take 8)) := by
  refine ⟨by simp [ints]; omega, _, c, rfl, hc, hm, fun _ => ⟨g, j, rfl, rfl, fun i u hu => ?_⟩⟩
  have hi : i < 8 := by have := (List.getElem?_eq_some_iff.1 hu).1; simp [ints] at this; omega
  rw [hB.cell]
  simp only [List.getElem?_toArray, ints_getElem?] at hu ⊢
  rw [List.getElem?_take_of_lt hi, List.getElem?_drop] at hu
  exact hu

/-- What Put does where the number fits. -/
def UPutOut (p : Nat) (sl : Value) (m : Nat) (xs : List Value) (bs : List Int) (w : World) (e : Ending) (w' : World) : Prop :=
  e = .returned (.int .i64 0) ∧ ∃ A c v2 W w2, Fresh w W A c bs ∧ Appended (W.alloc (.cells #[.slice A bs.length c] 29)) 0 29 1 sl (m + 1) (xs ++ [.slice A bs.length c]) v2 w2 ∧ w' = w2.setCell ⟨p, 0, none⟩ v2

set_option maxHeartbeats 1000000 in
theorem uput_big (p : Nat) (v : Int) (n : Nat) (w : World) (h1 : 1 ≤ n) (h8 : n ≤ 8) (hv : 0 ≤ v) (hv1 : v < 9223372036854775808) (hb : p256 n ≤ v) :
    Calls Try.prog 59 #[.pointer (some ⟨p, 0, none⟩), .int .i64 v, .int .i64 n] w fun e w' => e = .returned (.int .i64 9) ∧ Below w.heap.size w w' := by
  have hs : (decide (0 < (n : Int)) && decide ((n : Int) < 9)) = true := by simp; omega
  have HS := Lib.hid hs
  have hn1 : (1 : Int) ≤ n := by omega
  have hn8 : (n : Int) ≤ 8 := by omega
  have HBG := Lib.hid hb
  have HP := Lib.hid (p256_two n)
  clear hs hb
  go_enter Try.func59, Try.ntmps59
  go_wp2_with fail
  refine (usize_any _ w).mono ?_
  rintro e w' ⟨rfl, rfl⟩
  rw [HS.out]
  go_wp2_with fail
  refine (ubits_any v (by omega) hv1 _).mono ?_
  rintro e w1 ⟨rfl, hb1, hB⟩
  have HB := Lib.hid hb1
  have HBB := Lib.hid hB
  clear hb1 hB
  go_wp2_with fail
  go_loopw [8] (fun i wr => ∃ k : Nat, k + 8 * n ≤ 64 ∧ i = .int .i64 k ∧ v < 2 ^ (64 - k) ∧ wr = w1) (fun i _ => 64 - (intOf i).toNat)
  case atStart => exact ⟨0, by omega, rfl, by omega, rfl⟩
  case round =>
    obtain ⟨k, hk, rfl, hvk, rfl⟩ := hrel
    by_cases hlt : k + 8 * n < 64
    · obtain ⟨r, hr⟩ : ∃ r, k + r = 63 := ⟨63 - k, by omega⟩
      rw [show 64 - k = r + 1 by omega] at hvk
      have hbt := bit_top v r hv hvk
      have c0 : wr.cell? ⟨w.heap.size, k, none⟩ = some (.int .i64 (v / 2 ^ r % 2)) := by
        rw [HBB.out.cell]
        simp only [List.getElem?_toArray, ints_getElem?]
        rw [bitL_at v 64 k (by omega), show 64 - 1 - k = r by omega]
        rfl
      have hlt' : (k : Int) < 64 - 8 * (n : Int) := by omega
      have hk64 : (k : Int) < 64 := by omega
      obtain ⟨q, hq⟩ : ∃ q, q = v / 2 ^ r % 2 := ⟨_, rfl⟩
      rw [← hq] at c0 hbt
      have HR := Lib.hid (And.intro hr hvk)
      have HBT := Lib.hid hbt
      clear hvk hq
      rcases hbt with ⟨rfl, _⟩ | ⟨rfl, hlow⟩
      · go_wp2_with fail
        go_ret
        exact ⟨rfl, HB.out⟩
      · have HLOW := Lib.hid hlow
        clear hlow
        go_wp2_with fail
        go_roundw
        case rel => exact ⟨k + 1, by omega, by go_num, by rw [show 64 - (k + 1) = r by omega]; exact HLOW.out, by first | rfl | trivial⟩
        case measure => simp [intOf]; omega
    · exfalso
      have h2 := HBG.out
      rw [HP.out] at h2
      rw [show 64 - k = 8 * n by omega] at hvk
      omega
set_option maxHeartbeats 2000000 in
theorem uput_ok (p : Nat) (v : Int) (n : Nat) (w : World) (h1 : 1 ≤ n) (h8 : n ≤ 8) (hv : 0 ≤ v) (hv1 : v < 9223372036854775808) (hb : v < p256 n) (sl : Value) (l : List Pc) (hl : l.length ≤ 4096) (h4 : Blk w p 126 #[sl]) (h5 : w.ownsRow 0 29 1 sl l.length (pcsV l)) :
    Calls Try.prog 59 #[.pointer (some ⟨p, 0, none⟩), .int .i64 v, .int .i64 n] w (UPutOut p sl l.length (pcsV l) (be n v) w) := by
  obtain ⟨i0, hi0, hz0, hz1, hz2⟩ := info_parts info5
  obtain ⟨i7, hi7, hy0, hy1, hy2⟩ := info_parts info27
  obtain ⟨As, cs, rfl⟩ := own_slice h5
  have hs : (decide (0 < (n : Int)) && decide ((n : Int) < 9)) = true := by simp; omega
  have HS := Lib.hid hs
  have hn1 : (1 : Int) ≤ n := by omega
  have hn8 : (n : Int) ≤ 8 := by omega
  have HBG := Lib.hid hb
  have HP := Lib.hid (p256_two n)
  have H4 := Lib.hid h4
  have H5 := Lib.hid h5
  clear hs hb h4 h5
  go_enter Try.func59, Try.ntmps59
  go_wp2_with fail
  refine (usize_any _ w).mono ?_
  rintro e w' ⟨rfl, rfl⟩
  rw [HS.out]
  go_wp2_with fail
  refine (ubits_any v (by omega) hv1 _).mono ?_
  rintro e w1 ⟨rfl, hb1, hB⟩
  have HB := Lib.hid hb1
  have HBB := Lib.hid hB
  clear hb1 hB
  go_wp2_with fail
  go_loopw [8] (fun i wr => ∃ k : Nat, k + 8 * n ≤ 64 ∧ i = .int .i64 k ∧ wr = w1) (fun i _ => 64 - (intOf i).toNat)
  case atStart => exact ⟨0, by omega, rfl, rfl⟩
  case round =>
    obtain ⟨k, hk, rfl, rfl⟩ := hrel
    by_cases hlt : k + 8 * n < 64
    · obtain ⟨r, hr⟩ : ∃ r, k + r = 63 := ⟨63 - k, by omega⟩
      have hq0 : v / 2 ^ r % 2 = 0 := by
        have h2 := HBG.out
        rw [HP.out] at h2
        have := pow2_le (show 8 * n ≤ r by omega)
        rw [Int.ediv_eq_zero_of_lt hv (by omega)]
        rfl
      have c0 : wr.cell? ⟨w.heap.size, k, none⟩ = some (.int .i64 0) := by
        rw [HBB.out.cell]
        simp only [List.getElem?_toArray, ints_getElem?]
        rw [bitL_at v 64 k (by omega), show 64 - 1 - k = r by omega, hq0]
        rfl
      have hlt' : (k : Int) < 64 - 8 * (n : Int) := by omega
      have hk64 : (k : Int) < 64 := by omega
      clear hq0
      go_wp2_with fail
      go_roundw
      case rel => exact ⟨k + 1, by omega, by go_num, by first | rfl | trivial⟩
      case measure => simp [intOf]; omega
    · have hlt' : ¬ (k : Int) < 64 - 8 * (n : Int) := by omega
      have hvn : ¬ v < 0 := by omega
      go_wp2_with fail
      obtain ⟨w1, rfl⟩ : ∃ w1, w1 = wr := ⟨_, rfl⟩
      go_loopw [9, 10] (fun pv i wr => ∃ (j m q : Nat) (A' : Option Addr) (c' : Nat), j + 8 * m = 64 ∧ m + q = n ∧ i = .int .i64 j ∧ pv = .slice A' (be q (v / p256 m)).length c' ∧ Below w.heap.size w wr ∧ Blk wr w.heap.size 3 (ints (bitL v 64)).toArray ∧
        wr.ownsRow w.heap.size 5 1 (.slice A' (be q (v / p256 m)).length c') (be q (v / p256 m)).length (bts (be q (v / p256 m)))) (fun _ i _ => 64 - (intOf i).toNat)
      case atStart => exact ⟨64 - 8 * n, n, 0, none, 0, by omega, by omega, by go_num, rfl, HB.out, HBB.out, World.ownsRow_nil _ _ _ _⟩
      case round =>
        obtain ⟨j, m, q, A', c', hjm, hmq, rfl, rfl, hbW, hBL, hown⟩ := hrel
        have HBW := Lib.hid hbW
        have HBL := Lib.hid hBL
        have HO := Lib.hid hown
        have lB := hBL.lt
        cases m with
        | succ m =>
          have hj64 : j < 64 := by omega
          have hj1 : (j : Int) < 64 := by omega
          have hj2 : (j : Int) + 8 ≤ 64 := by omega
          have hq8 : q ≤ 7 := by omega
          have hdrop : ((bitL v 64).drop j).take 8 = (bitL v (8 * (m + 1))).take 8 := by
            have := bitL_drop v (8 * (m + 1)) j
            rw [hjm] at this
            rw [this]
          have hx01 : ∀ x ∈ ((bitL v 64).drop j).take 8, 0 ≤ x ∧ x ≤ 1 := fun x hx => bitL_01 v 64 x (List.mem_of_mem_drop (List.mem_of_mem_take hx))
          have hx8 : (((bitL v 64).drop j).take 8).length = 8 := by simp [bitL_length]; omega
          have hoct := oct_piece v m
          rw [← hdrop] at hoct
          have hbe := be_more v q m
          have hlen : (be q (v / p256 (m + 1))).length ≤ 7 := by rw [be_length]; omega
          have hlen1 : (be (q + 1) (v / p256 m)).length = (be q (v / p256 (m + 1))).length + 1 := by rw [be_length, be_length]
          obtain ⟨y, hy⟩ : ∃ y, y = v / p256 m % 256 := ⟨_, rfl⟩
          obtain ⟨L, hL⟩ : ∃ L, L = be q (v / p256 (m + 1)) := ⟨_, rfl⟩
          rw [← hy] at hoct hbe
          rw [← hL] at hbe hlen hlen1 HO hown ⊢
          have HX := Lib.hid (And.intro hx01 (And.intro hx8 hoct))
          have HBE := Lib.hid (And.intro hbe (And.intro hlen1 hjm))
          clear hbW hBL hown hdrop hx01 hx8 hoct hbe hlen1 hy hL
          go_wp2_with fail
          refine (uoctet_any (fun i => i = w.heap.size) _ (64 - j) _ HX.out.2.1 HX.out.1 wr (rd_ints HBL.out j (64 - j) (by rw [bitL_length]; omega) (by omega) (by simp only [maxLen]; omega))).mono ?_
          rintro e w5 ⟨rfl, hw5⟩
          rw [HX.out.2.2]
          have hb5 : Below wr.heap.size wr w5 := by obtain ⟨n, rfl⟩ := hw5; exact BdN (B0 _) n
          have HB5 := Lib.hid (Bt HBW.out hb5)
          have BB5 := Lib.hid (HBL.out.later hb5)
          have HO5 := Lib.hid ((own_below HO.out hb5).alloc (.cells #[.int .u8 y] 5))
          clear hw5 hb5
          go_wp2_with (at_builtin; refine wpList_append_rd _ rfl (.tmp 37) (.tmp 44) _ rfl w.heap.size 5 i0 _ 1 1 Try.underlying29 hi0 hz0 hz1 hz2 rfl (by omega) (.slice A' L.length c') L.length (bts L) rfl HO5.out (fun k => k = w5.heap.size) (.slice (some ⟨w5.heap.size, 0, none⟩) 1 1) 1 [.int .u8 y] rfl (Rd.box w5 5 [.int .u8 y] 1 rfl) (by simp [Value.oneCell']) (by simp only [maxLen]; omega) (by omega) (by have := HB5.out.size; simp; omega) ?_; intro v2 w6 HA)
          obtain ⟨A2, c2, rfl⟩ := own_slice HA.own
          have HA' := Lib.hid HA
          clear HA
          go_wp2_with fail
          go_roundw
          case rel => exact ⟨j + 8, m, q + 1, A2, c2, by omega, by omega, by go_num, congrArg (fun n => Value.slice A2 n c2) HBE.out.2.1.symm, (Ba HB5.out _).grown HA'.out.grown (by have := HB5.out.size; simp; omega) (fun k hk => own_ge HO5.out k hk), (BB5.out.alloc _).grown HA'.out.grown (own_ne_blk HO5.out (BB5.out.alloc _) (by decide)).symm, by rw [HBE.out.2.1, HBE.out.1]; simpa [bts] using HA'.out.own⟩
          case measure => simp [intOf]; omega
        | zero =>
          obtain rfl : j = 64 := by omega
          obtain rfl : q = n := by omega
          have hp0 : v / p256 0 = v := by simp [p256]
          rw [hp0] at HO ⊢
          have hlen : (be q v).length ≤ 8 := by rw [be_length]; omega
          obtain ⟨L, hL⟩ : ∃ L, L = be q v := ⟨_, rfl⟩
          rw [← hL] at hlen HO ⊢
          have HLL := Lib.hid hL
          have BP := Lib.hid (H4.out.below HBW.out H4.out.lt)
          have HO5 := Lib.hid ((own_mod H5.out (Mod.of_below (S := fun _ => False) HBW.out) (fun _ _ h => h) (Nat.le_refl _)).alloc (.cells #[.slice A' L.length c'] 29))
          obtain ⟨x0, f0⟩ := blk1 BP.out
          have lp := BP.out.lt
          clear hbW hBL hown hp0 hL
          go_wp2_with (at_builtin; refine wpList_append_rd _ rfl (.tmp 50) (.tmp 52) _ rfl 0 29 i7 _ 1 24 Try.underlying71 hi7 hy0 hy1 hy2 rfl (by omega) (.slice As l.length cs) l.length (pcsV l) rfl HO5.out (fun k => k = wr.heap.size) (.slice (some ⟨wr.heap.size, 0, none⟩) 1 1) 1 [.slice A' L.length c'] rfl (Rd.box wr 29 [.slice A' L.length c'] 1 rfl) (by simp [Value.oneCell']) (by simp only [maxLen]; omega) (by omega) (Nat.zero_le _) ?_; intro v2 w2 HA; obtain ⟨A2, c2, rfl⟩ := own_slice HA.own; have HBp := (BP.out.alloc (.cells #[.slice A' L.length c'] 29)).grown HA.grown (own_ne_blk HO5.out (BP.out.alloc _) (show (29 : TypeId) ≠ 126 by decide)).symm; obtain ⟨p0, k0⟩ := blk1 HBp)
          go_ret
          have hLL := HLL.out
          subst hLL
          exact ⟨rfl, A', c', _, wr, w2, ⟨HO.out, HBW.out⟩, HA, rfl⟩
end Go.Proofs.Ytdnbbjhickjnmaa.Wr
