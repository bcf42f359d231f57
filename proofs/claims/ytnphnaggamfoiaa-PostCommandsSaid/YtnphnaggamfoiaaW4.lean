/- Walks: the writer's Put whole, Octets, Out; Write. -/
import Derived.Test.YtnphnaggamfoiaaW3
namespace Go.Proofs.Ytnphnaggamfoiaa.Wr
open Go.RowKit
set_option linter.unusedVariables false
set_option maxRecDepth 20000
set_option linter.unusedSimpArgs false

set_option maxHeartbeats 1000000 in
theorem put_range (p s : Nat) (v : Int) (n k : Nat) (w : World) (h4 : Blk w p 98 #[.pointer (some ⟨s, 0, none⟩)]) (hkn : k + n = 8) (hn : 1 ≤ n) (hv : 0 ≤ v) (hv1 : v < 9223372036854775808) (hput : p256 n ≤ v) :
    Calls Try.prog 67 #[.pointer (some ⟨p, 0, none⟩), .int .i64 v, .int .i64 (n : Int)] w fun e w' => e = .returned (.int .i64 9) ∧ Below w.heap.size w w' := by
  have H4 := Lib.hid h4
  clear h4
  obtain ⟨b0, b1, b2, b3, b4, b5, b6, b7, hbe⟩ := be8_parts v
  have HBE := Lib.hid hbe
  have hcat : be k (v / p256 n) ++ be n v = be 8 v := by rw [← be_add, hkn]
  have HCAT := Lib.hid hcat
  have HA0 := Lib.hid (ahead_zero v k n hkn hv hv1)
  clear hbe hcat hv1
  have hk8 : (8 : Int) - (n : Int) = (k : Int) := by omega
  have hk0 : (0 : Int) ≤ (k : Int) := by omega
  have hk1 : (k : Int) ≤ 8 := by omega
  have hk2 : k ≤ 8 := by omega
  have hn1 : ¬ (n : Int) < 1 := by omega
  have hn8 : ¬ (8 : Int) < (n : Int) := by omega
  have hv0 : ¬ v < 0 := by omega
  have HPUT := Lib.hid hput
  clear hkn hn hput hv
  go_enter Try.func67, Try.ntmps67
  go_wp2_with (first
    | (go_at_call 68; refine (wnone_any p s w H4.out).mono ?_; rintro e w' ⟨rfl, rfl⟩)
    | (go_at_call 78; refine (of_any v w).mono ?_; rintro e w1 ⟨rfl, hb1⟩; rw [HBE.out]; simp only [bts, List.map_cons, List.map_nil]))
  have hbk := Blk.new w1 118 (bts (be 8 v)).toArray
  rw [← HCAT.out] at hbk
  have RK := rd_part [] (be k (v / p256 n)) (be n v) (by simpa using hbk) k 8 (be_length _ _).symm hk2 (by simp [maxLen])
  rw [HCAT.out, HBE.out] at RK
  simp only [bts, List.map_cons, List.map_nil] at RK
  refine (contains_any _ _ (be k (v / p256 n)) _ (by rw [be_length]; exact RK)).mono ?_
  clear RK hbk
  rintro e w' ⟨rfl, rfl⟩
  rw [HA0.out, show decide (p256 n ≤ v) = true by have := HPUT.out; simp; omega]
  go_wp2_with fail
  go_ret
  exact ⟨rfl, Ba hb1 _⟩

theorem wdid_same {S : Nat → Prop} {p : Nat} {xs : List Int} {v : Value} {w w' : World} (h : WrAt w S p xs) (hb : Below w.heap.size w w') : WDid S p xs v w (.returned v) w' :=
  ⟨rfl, S, Mod.of_below hb, h.below hb, fun _ h => .inl h⟩

theorem put_any (S : Nat → Prop) (p : Nat) (xs : List Int) (v size : Int) (w : World) (h : WrAt w S p xs) (hv1 : v < 9223372036854775808) (hl : xs.length + 8 ≤ 140737488355328) :
    Calls Try.prog 67 #[.pointer (some ⟨p, 0, none⟩), .int .i64 v, .int .i64 size] w (WDid S p (putL xs v size) (.int .i64 (putE v size)) w) := by
  have h' := h
  obtain ⟨h1, s, A, c, h2, h3, h4, h5, h6, h7⟩ := h'
  by_cases ha : size < 1 ∨ 8 < size
  · have he : putE v size = 2 := by simp [putE, ha]
    rw [putL, he]
    refine (put_arg p s v size w h4 ha).mono ?_
    rintro e w' ⟨rfl, rfl⟩
    exact wdid_same h (B0 w)
  · obtain ⟨n, rfl⟩ := Int.eq_ofNat_of_zero_le (show 0 ≤ size by omega)
    obtain ⟨k, hk⟩ : ∃ k, k + n = 8 := ⟨8 - n, by omega⟩
    by_cases hneg : v < 0
    · have he : putE v n = 9 := by simp [putE, ha, hneg]
      rw [putL, he]
      refine (put_neg p s v n w h4 (by omega) (by omega) hneg).mono ?_
      rintro e w' ⟨rfl, hb⟩
      exact wdid_same h hb
    · by_cases hp : p256 n ≤ v
      · have he : putE v n = 9 := by simp [putE, ha, hp]
        rw [putL, he]
        refine (put_range p s v n k w h4 hk (by omega) (by omega) hv1 hp).mono ?_
        rintro e w' ⟨rfl, hb⟩
        exact wdid_same h hb
      · have he : putE v n = 0 := by simp [putE, ha, hp, hneg]
        rw [putL, he, if_pos rfl]
        exact put_fits S p xs v n k w h hk (by omega) (by omega) hv1 hl (by omega)

def octE (bs : List Int) : Int := if 65535 < bs.length then 5 else 0
def octL (xs bs : List Int) : List Int := if 65535 < bs.length then xs else xs ++ (be 2 bs.length ++ bs)

theorem _root_.Go.Proofs.Ytnphnaggamfoiaa.Rd.mod {w w' : World} {S T : Nat → Prop} {sz n : Nat} {v : Value} {cs : List Value} (h : Rd w S sz v n cs) (hm : Mod T w w') (hd : ∀ i, S i → ¬ T i) : Rd w' S sz v n cs := h.kept hm hd

theorem WDid.trans {S : Nat → Prop} {p : Nat} {xs ys : List Int} {v v' : Value} {w w1 w2 : World} {e e' : Ending} (h : WDid S p xs v w e w1) (k : ∀ S', WrAt w1 S' p xs → (∀ i, S' i → S i ∨ w.heap.size ≤ i) → Mod S w w1 → WDid S' p ys v' w1 e' w2) : WDid S p ys v' w e' w2 := by
  obtain ⟨_, S', hm, hw, hs⟩ := h
  obtain ⟨he, S'', hm', hw', hs'⟩ := k S' hw hs hm
  exact ⟨he, S'', hm.trans hm' hs, hw', fun i hi => (hs' i hi).elim (hs i) (fun h => .inr (Nat.le_trans hm.size h))⟩

theorem p256_2 : p256 2 = 65536 := by decide

theorem octets_any (S T : Nat → Prop) (p : Nat) (xs bs : List Int) (Ab : Option Addr) (cb : Nat) (w : World) (h : WrAt w S p xs) (hr : Rd w T 1 (.slice Ab bs.length cb) bs.length (bts bs)) (hT : ∀ i, T i → i < w.heap.size ∧ ¬ S i) (hl : xs.length + bs.length + 8 ≤ 140737488355328) :
    Calls Try.prog 106 #[.pointer (some ⟨p, 0, none⟩), .slice Ab bs.length cb] w (WDid S p (octL xs bs) (.int .i64 (octE bs)) w) := by
  have h' := h
  obtain ⟨h1, s, A, c, h2, h3, h4, h5, h6, h7⟩ := h'
  have HH := Lib.hid h
  have H4 := Lib.hid h4
  have HR := Lib.hid hr
  clear hr h4 h5 h6 h7 h1 h2 h3 h
  by_cases hbig : 65535 < bs.length
  · simp only [octL, octE, hbig, if_true]
    have hbig' : (65535 : Int) < (bs.length : Int) := by omega
    go_enter Try.func106, Try.ntmps106
    go_wp2_with (go_at_call 68; refine (wnone_any p s w H4.out).mono ?_; rintro e w' ⟨rfl, rfl⟩)
    go_ret
    exact wdid_same HH.out (B0 w)
  · simp only [octL, octE, hbig, if_false]
    have hbig' : ¬ (65535 : Int) < (bs.length : Int) := by omega
    have he : putE bs.length 2 = 0 := by simp [putE, p256_2]; omega
    have hL : putL xs bs.length 2 = xs ++ be 2 bs.length := by simp [putL, he]
    have HE := Lib.hid (And.intro he hL)
    have HL := Lib.hid hl
    clear he hL hl hbig
    go_enter Try.func106, Try.ntmps106
    go_wp2_with fail
    refine (wnone_any p s w H4.out).mono ?_
    rintro e w' ⟨rfl, rfl⟩
    go_wp2_with fail
    refine (put_any S p xs bs.length 2 w HH.out (by omega) (by have := HL.out; omega)).mono ?_
    rintro e w1 ⟨rfl, S1, hm1, hw1, hs1⟩
    rw [HE.out.1]
    rw [HE.out.2] at hw1
    have HW1 := Lib.hid hw1
    clear hw1
    go_wp2_with fail
    refine (wbytes_any S1 T p _ bs Ab cb w1 HW1.out (HR.out.kept hm1 (fun i hi => (hT i hi).2)) (fun i hi => Nat.lt_of_lt_of_le (hT i hi).1 hm1.size) (by have := HL.out; simp only [List.length_append, be_length]; omega)).mono ?_
    rintro e w2 ⟨rfl, hd⟩
    go_wp2_with fail
    go_ret
    obtain ⟨S2, hm2, hw2, hs2⟩ := hd
    rw [List.append_assoc] at hw2
    exact ⟨rfl, S2, hm1.trans hm2 hs1, hw2, fun i hi => (hs2 i hi).elim (hs1 i) (fun h => .inr (Nat.le_trans hm1.size h))⟩

theorem out_any (S : Nat → Prop) (p : Nat) (xs : List Int) (w : World) (h : WrAt w S p xs) (hl : xs.length ≤ 140737488355328) :
    Calls Try.prog 46 #[.pointer (some ⟨p, 0, none⟩)] w fun e w' => ∃ A c, e = .returned (.slice A xs.length c) ∧ Fresh w w' A c xs := by
  obtain ⟨h1, s, A, c, h2, h3, h4, h5, h6, h7⟩ := h
  obtain ⟨x0, f0⟩ := blk1 h4
  obtain ⟨y0, y1, g0, g1⟩ := blk2 h5
  have H4 := Lib.hid h4
  have HO := Lib.hid h6
  clear h4 h5 h6 h7 h1 h2 h3
  go_enter Try.func46, Try.ntmps46
  go_wp2_with (first
    | (go_at_call 68; refine (wnone_any p s w H4.out).mono ?_; rintro e w' ⟨rfl, rfl⟩)
    | (go_at_call 69; refine (clone_any _ A c xs w (Rd.of_own HO.out) (fun i hi => own_lt HO.out i hi) hl).mono ?_; rintro e w1 ⟨A', c', rfl, HF⟩))
  go_ret
  exact ⟨A', c', rfl, HF⟩

theorem write_any (w : World) : Calls Try.prog 43 #[] w fun e w' => e = .returned (.pointer (some ⟨w.heap.size + 1, 0, none⟩)) ∧ WrAt w' (fun i => i = w.heap.size ∨ i = w.heap.size + 1) (w.heap.size + 1) [] ∧ Below w.heap.size w w' := by
  go_enter Try.func43, Try.ntmps43
  go_wp2
  go_ret
  refine ⟨by simp, ⟨fun i hi => by simp; omega, w.heap.size, none, 0, .inr rfl, .inl rfl, Blk.new1 w _ _ _, (Blk.new w _ _).alloc _, World.ownsRow_nil _ _ _ _, fun k hk => by simp [Value.ownBlock] at hk⟩, Ba (Ba (B0 w) _) _⟩
end Go.Proofs.Ytnphnaggamfoiaa.Wr
