/- The reference's writer: Put whatever comes, Bytes, Octets. -/
import Derived.Test.YtdnbbjhickjnmaaU4
namespace Go.Proofs.Ytdnbbjhickjnmaa.Wr
open Go.RowKit
set_option maxRecDepth 20000
set_option linter.unusedVariables false
set_option maxRecDepth 20000
set_option linter.unusedSimpArgs false

theorem uput_out {S : Nat → Prop} {p : Nat} {bs : List Int} {w w' : World} {e : Ending} {sl : Value} {l : List Pc} {T : Nat → Prop} (h1 : S p) (h2 : ∀ i, S i → i < w.heap.size) (h4 : Blk w p 126 #[sl]) (h5 : w.ownsRow 0 29 1 sl l.length (pcsV l))
    (h6 : ∀ k, sl.ownBlock = some k → S k ∧ ¬ T k) (h7 : ∀ i, T i → S i ∧ i ≠ p) (h8 : ∀ x ∈ l, x.ok w T) (h : UPutOut p sl l.length (pcsV l) bs w e w') : UWDid S p (flat l ++ bs) (l.length + 1) (.int .i64 0) w e w' := by
  obtain ⟨rfl, A, c, v2, W, w2, HF, HA, rfl⟩ := h
  exact rw_appended (Tx := fun i => w.heap.size ≤ i ∧ i < W.heap.size) (x := ⟨A, c, bs⟩) h1 h2 h4 h5 h6 h7 h8 HF.kept ((Rd.of_own HF.own).mono (fun i hi => ⟨own_ge HF.own i hi, own_lt HF.own i hi⟩)) (fun i hi => hi) HA _

def putN (n : Nat) (v size : Int) : Nat := if putE v size = 0 then n + 1 else n
theorem uput_any (S : Nat → Prop) (p : Nat) (xs : List Int) (n : Nat) (v size : Int) (w : World) (h : RwAt w S p xs n) (hn : n ≤ 4096) (hv0 : -9223372036854775808 ≤ v) (hv1 : v < 9223372036854775808) :
    Calls Try.prog 59 #[.pointer (some ⟨p, 0, none⟩), .int .i64 v, .int .i64 size] w (UWDid S p (putL xs v size) (putN n v size) (.int .i64 (putE v size)) w) := by
  by_cases ha : size < 1 ∨ 8 < size
  · have he : putE v size = 2 := by simp [putE, ha]
    rw [putL, putN, he]
    refine (uput_arg p v size w ha).mono ?_
    rintro e w' ⟨rfl, rfl⟩
    exact UWDid.same h (B0 w)
  · obtain ⟨m, rfl⟩ := Int.eq_ofNat_of_zero_le (show 0 ≤ size by omega)
    by_cases hneg : v < 0
    · have he : putE v m = 9 := by simp [putE, ha, hneg]
      rw [putL, putN, he]
      refine (uput_neg p v m w (by omega) (by omega) hneg hv0).mono ?_
      rintro e w' ⟨rfl, hb⟩
      exact UWDid.same h hb
    · by_cases hbig : p256 m ≤ v
      · have he : putE v m = 9 := by simp [putE, ha, hbig]
        rw [putL, putN, he]
        refine (uput_big p v m w (by omega) (by omega) (by omega) hv1 hbig).mono ?_
        rintro e w' ⟨rfl, hb⟩
        exact UWDid.same h hb
      · have he : putE v m = 0 := by simp [putE, ha, hneg, hbig]
        rw [putL, putN, he]
        simp only [if_true, Int.toNat_natCast]
        obtain ⟨h1, h2, l, sl, T, h3, h3', h4, h5, h6, h7, h8⟩ := h
        subst h3 h3'
        exact (uput_ok p v m w (by omega) (by omega) (by omega) hv1 (by omega) sl l hn h4 h5).mono fun e w' h => uput_out h1 h2 h4 h5 h6 h7 h8 h

set_option maxHeartbeats 1000000 in
theorem uwbytes_ok (T : Nat → Prop) (p : Nat) (bs : List Int) (Ab : Option Addr) (cb : Nat) (w : World) (hr : Rd w T 1 (.slice Ab bs.length cb) bs.length (bts bs)) (hT : ∀ i, T i → i < w.heap.size) (hbl : bs.length ≤ 140737488355328) (As : Option Addr) (cs : Nat) (l : List Pc) (hl : l.length ≤ 4096)
    (h4 : Blk w p 126 #[.slice As l.length cs]) (h5 : w.ownsRow 0 29 1 (.slice As l.length cs) l.length (pcsV l)) :
    Calls Try.prog 80 #[.pointer (some ⟨p, 0, none⟩), .slice Ab bs.length cb] w (UPutOut p (.slice As l.length cs) l.length (pcsV l) bs w) := by
  obtain ⟨i0, hi0, hz0, hz1, hz2⟩ := info_parts info5
  obtain ⟨i7, hi7, hy0, hy1, hy2⟩ := info_parts info27
  obtain ⟨x0, f0⟩ := blk1 h4
  have lp := h4.lt
  have H4 := Lib.hid h4
  have H5 := Lib.hid h5
  have HR := Lib.hid hr
  clear h4 h5 hr
  go_enter Try.func80, Try.ntmps80
  go_wp2_with fail
  go_region_law (first
    | (refine step_append_rd _ rfl (.const (.slice none 0 0)) (.tmp 10) 29 rfl w.heap.size 5 i0 _ 1 1 Try.underlying29 hi0 hz0 hz1 hz2 rfl (by omega) (.slice none 0 0) 0 [] (by simp [Act.eval, Act.put]) (World.ownsRow_nil _ _ _ _) T (.slice Ab bs.length cb) bs.length (bts bs) (by simp [Act.eval, Act.put]) (HR.out.below (Bd (B0 w)) hT) (bts_one bs) (by simp only [maxLen]; omega) (by omega) (by simp) ?_; intro v1 w1 HA1; obtain ⟨A1, c1, rfl⟩ := own_slice HA1.own; have hb1 : Below w.heap.size w w1 := (Bd (B0 w)).grown HA1.grown (Nat.le_refl _) (by simp [Value.ownBlock]); have HA1' := Lib.hid HA1; simp only [Nat.zero_add] at HA1 ⊢; have q0' : w1.cell? ⟨p, 0, none⟩ = some (.slice As l.length cs) := (hb1.cell lp).trans x0; have lp1 : p < w1.heap.size := Nat.lt_of_lt_of_le lp hb1.size; have HO1 := Lib.hid ((own_below H5.out hb1).alloc (.cells #[.slice A1 bs.length c1] 29)); have HN1 := Lib.hid (Rd.box w1 29 [.slice A1 bs.length c1] 1 rfl))
    | (refine step_append_rd _ rfl (.tmp 9) (.tmp 12) 71 rfl 0 29 i7 _ 1 24 Try.underlying71 hi7 hy0 hy1 hy2 rfl (by omega) (.slice As l.length cs) l.length (pcsV l) (by simp [Act.eval, Act.put]) HO1.out (fun k => k = w1.heap.size) (.slice (some ⟨w1.heap.size, 0, none⟩) 1 1) 1 [.slice A1 bs.length c1] (by simp [Act.eval, Act.put]) HN1.out (by simp [Value.oneCell']) (by simp only [maxLen]; omega) (by omega) (Nat.zero_le _) ?_; intro v2 w2 HA; obtain ⟨A2, c2, rfl⟩ := own_slice HA.own; have HBp := Blk.grown (Blk.alloc (H4.out.later hb1) _) HA.grown (own_ne_blk H5.out H4.out (show (29 : TypeId) ≠ 126 by decide)).symm; obtain ⟨p0, k0⟩ := blk1 HBp))
  all_goals
    go_wp2
    go_ret
    exact ⟨rfl, A1, c1, _, w1, w2, ⟨by simpa using HA1'.out.own, hb1⟩, HA, rfl⟩

theorem uwbytes_any (S T : Nat → Prop) (p : Nat) (xs bs : List Int) (n : Nat) (Ab : Option Addr) (cb : Nat) (w : World) (h : RwAt w S p xs n) (hn : n ≤ 4096) (hr : Rd w T 1 (.slice Ab bs.length cb) bs.length (bts bs)) (hT : ∀ i, T i → i < w.heap.size) (hbl : bs.length ≤ 140737488355328) :
    Calls Try.prog 80 #[.pointer (some ⟨p, 0, none⟩), .slice Ab bs.length cb] w (UWDid S p (xs ++ bs) (n + 1) (.int .i64 0) w) := by
  obtain ⟨h1, h2, l, sl, U, h3, h3', h4, h5, h6, h7, h8⟩ := h
  subst h3 h3'
  obtain ⟨As, cs, rfl⟩ := own_slice h5
  exact (uwbytes_ok T p bs Ab cb w hr hT hbl As cs l hn h4 h5).mono fun e w' h => uput_out h1 h2 h4 h5 h6 h7 h8 h

theorem putE_len (n : Nat) : putE (n : Int) 2 = if 65535 < n then 9 else 0 := by
  unfold putE
  rw [if_neg (by omega), show (2 : Int).toNat = 2 from rfl, show p256 2 = 65536 by decide]
  split <;> split <;> omega

theorem uoctets_any' (S T : Nat → Prop) (p : Nat) (xs bs : List Int) (n : Nat) (Ab : Option Addr) (cb : Nat) (w : World) (h : RwAt w S p xs n) (hn : n ≤ 4095) (hr : Rd w T 1 (.slice Ab bs.length cb) bs.length (bts bs)) (hT : ∀ i, T i → i < w.heap.size ∧ ¬ S i) (hbl : bs.length ≤ 140737488355328) :
    Calls Try.prog 60 #[.pointer (some ⟨p, 0, none⟩), .slice Ab bs.length cb] w (UWDid S p (octL xs bs) (if 65535 < bs.length then n else n + 2) (.int .i64 (octE bs)) w) := by
  have H := Lib.hid h
  have HR := Lib.hid hr
  have hpE := putE_len bs.length
  clear h hr
  by_cases hb : 65535 < bs.length
  · rw [if_pos hb] at hpE
    have he : octE bs = 5 := by unfold octE; rw [if_pos hb]
    have hl : octL xs bs = xs := by unfold octL; rw [if_pos hb]
    rw [he, hl, if_pos hb]
    have HP := Lib.hid hpE
    clear hb hpE he hl
    go_enter Try.func60, Try.ntmps60
    go_wp2_with fail
    refine (uput_any S p xs n bs.length 2 w H.out (by omega) (by omega) (by omega)).mono ?_
    rw [putL, putN, HP.out]
    rintro e w1 ⟨rfl, hd⟩
    have HD := Lib.hid hd
    clear hd
    go_wp2_with fail
    go_ret
    exact ⟨rfl, HD.out⟩
  · rw [if_neg hb] at hpE
    have he : octE bs = 0 := by unfold octE; rw [if_neg hb]
    have hl : octL xs bs = xs ++ be 2 bs.length ++ bs := by unfold octL; rw [if_neg hb, List.append_assoc]
    rw [he, hl, if_neg hb]
    have HP := Lib.hid hpE
    clear hb hpE he hl
    go_enter Try.func60, Try.ntmps60
    go_wp2_with fail
    refine (uput_any S p xs n bs.length 2 w H.out (by omega) (by omega) (by omega)).mono ?_
    rw [putL, putN, HP.out]
    simp only [if_true]
    rintro e w1 ⟨rfl, S1, hm1, hw1, hs1⟩
    have HM := Lib.hid hm1
    have HW := Lib.hid hw1
    have HS := Lib.hid hs1
    clear hm1 hw1 hs1
    go_wp2_with fail
    refine (uwbytes_any S1 T p _ bs (n + 1) Ab cb w1 HW.out (by omega) (HR.out.kept HM.out (fun i hi => (hT i hi).2)) (fun i hi => Nat.lt_of_lt_of_le (hT i hi).1 HM.out.size) hbl).mono ?_
    rintro e w2 ⟨rfl, S2, hm2, hw2, hs2⟩
    have HM2 := Lib.hid (HM.out.trans hm2 (fun i hi => HS.out i hi))
    have HW2 := Lib.hid hw2
    have HS2 := Lib.hid hs2
    have lw := HM.out.size
    clear hm2 hw2 hs2
    go_wp2_with fail
    go_ret
    refine ⟨rfl, S2, HM2.out, HW2.out, fun i hi => ?_⟩
    rcases HS2.out i hi with h | h
    · exact HS.out i h
    · exact .inr (Nat.le_trans lw h)
end Go.Proofs.Ytdnbbjhickjnmaa.Wr
