/- The statement RelayRoom: its walk. -/
import Derived.Test.YtdnbbjhickjnmaaR10
namespace Go.Proofs.Ytdnbbjhickjnmaa
open Go.RowKit
set_option maxRecDepth 20000
set_option linter.unusedVariables false
set_option linter.unusedSimpArgs false

def fil (k : Nat) : List Dg := (List.range k).map fun (i : Nat) => ⟨1, 2, [(i : Int)]⟩
def roomQ (k : Nat) : Nat → List Dg := upd q0 2 (fil (min k 16))
theorem fil_length (k : Nat) : (fil k).length = k := by simp [fil]
theorem roomQ_two (k : Nat) : roomQ k 2 = fil (min k 16) := upd_same _ _ _
theorem k_chk : chkE 1 2 1 = 0 := by kernel_rfl
theorem room_putE (k : Nat) : rputE (roomQ k) 1 2 1 = if k < 16 then 0 else 7 := by
  unfold rputE
  rw [k_chk, if_pos rfl, show (2 : Int).toNat = 2 from rfl, roomQ_two, fil_length]
  by_cases h : k < 16
  · rw [if_pos h, if_neg (by omega)]
  · rw [if_neg h, if_pos (by omega)]
theorem room_putQ (k : Nat) : rputQ (roomQ k) 1 2 [(k : Int)] = roomQ (k + 1) := by
  unfold rputQ
  rw [show ([(k : Int)] : List Int).length = 1 from rfl, room_putE]
  by_cases h : k < 16
  · rw [if_pos h, if_pos rfl, show (2 : Int).toNat = 2 from rfl, roomQ_two]
    funext i
    unfold roomQ
    by_cases e : i = 2
    · subst e
      rw [upd_same, upd_same, show min (k + 1) 16 = k + 1 from by omega, show min k 16 = k from by omega]
      simp [fil, List.range_succ]
    · rw [upd_ne _ _ e, upd_ne _ _ e, upd_ne _ _ e]
  · rw [if_neg h, if_neg (by decide)]
    unfold roomQ
    rw [show min (k + 1) 16 = min k 16 from by omega]
theorem room_len (k : Nat) : lenF (roomQ k) 2 = ((min k 16 : Nat) : Int) := by
  unfold lenF
  rw [if_pos (by decide), show (2 : Int).toNat = 2 from rfl, roomQ_two, fil_length]
theorem room_full (k : Nat) (h : 16 ≤ k) : roomQ k = roomQ 16 := by unfold roomQ; rw [show min k 16 = min 16 16 from by omega]
theorem room_zero : roomQ 0 = q0 := by
  funext i
  unfold roomQ
  by_cases e : i = 2
  · subst e; rw [upd_same]; rfl
  · rw [upd_ne _ _ e]
def rB : Nat → List Dg := takQ (roomQ 16) 2
def rC : Nat → List Dg := rputQ rB 3 2 [99]
def rD : Nat → List Dg := rputQ rC 3 2 [99]
theorem kr_t : takesF (roomQ 16) 2 1 2 [0] = true := by kernel_rfl
theorem kr_l : lenF rB 2 = 15 := by kernel_rfl
theorem kr_1 : rputE rB 3 2 ([99] : List Int).length = 0 := by kernel_rfl
theorem kr_2 : rputE rC 3 2 ([99] : List Int).length = 7 := by kernel_rfl
theorem kr_3 : rputE rD 2 3 ([1] : List Int).length = 0 := by kernel_rfl

set_option maxHeartbeats 4000000 in
theorem relayRoom_walk (W : World) (n0 : Int) (w0 : (Lit.int .i64 n0).wf = true) :
    Calls Try.prog 5 #[.int .i64 n0] W fun e w' => e = .returned (.bool true) ∧ Below W.heap.size W w' := by
  have hm := bringF_lt n0 40 (by omega)
  obtain ⟨m, hM⟩ : ∃ m : Nat, bringF n0 40 = m := ⟨(bringF n0 40).toNat, by omega⟩
  rw [hM] at hm
  have hm1 : (m : Int) < 40 := hm.2
  clear hm w0
  go_enter Try.func5, Try.ntmps5
  go_wp2_with fail
  refine (works_any _).mono ?_
  rintro e w1 ⟨rfl, hb1⟩
  go_wp2_with fail
  refine (bring_any n0 40 _ (by omega)).mono ?_
  rintro e w' ⟨rfl, rfl⟩
  rw [hM]
  have HM := Lib.hid hM
  clear hM
  go_wp2_with fail
  refine (new_in (fun _ => False) w1 (fun i h => h.elim) w1.heap.size (Nat.le_refl _)).mono ?_
  rintro e w2 ⟨rfl, HL2, hb2⟩
  have HB2 := Lib.hid (Bt hb1 hb2)
  replace HL2 := Lib.hid HL2
  clear hb2
  have lw1 := hb1.size
  go_wp2_with fail
  go_loopw [4] (fun i wr => ∃ k : Nat, k ≤ m ∧ i = .int .i64 k ∧ RelIn w1.heap.size (fun _ => False) wr w1.heap.size (roomQ k) ∧ Below W.heap.size W wr) (fun i _ => m - (intOf i).toNat)
  case atStart => exact ⟨0, Nat.zero_le _, rfl, by rw [room_zero]; exact HL2.out, HB2.out⟩
  case round =>
    obtain ⟨k, hk, rfl, HLk, HBk⟩ := hrel
    by_cases hlt : k < m
    · have hlt' : (k : Int) < (m : Int) := by omega
      have hk255 : (k : Int) ≤ 255 := by omega
      have hk0 : (0 : Int) ≤ (k : Int) := by omega
      go_wp2_with fail
      refine (frame_any 1 2 _ 1 1 _).mono ?_
      rintro e wr1 ⟨rfl, hbo⟩
      have hbr := Bt (Ba (B0 wr) (.cells #[.int .u8 (k : Int)] 5)) hbo
      have hb7 := (Blk.new wr 5 (bts [(k : Int)]).toArray).later hbo
      have lr : wr.heap.size < wr1.heap.size := Nat.lt_of_lt_of_le (by simp) hbo.size
      replace HLk := HLk.below hbr
      go_wp2_with fail
      refine (put_in 1 2 _ 1 [(k : Int)] _ HLk (rd_lit _ _ [(k : Int)] 5 hb7 (by simp [maxLen])) (fun j hj => by omega)).mono ?_
      rintro e wr2 ⟨rfl, HLk2, hmk⟩
      rw [show rputE (roomQ k) 1 2 ([(k : Int)] : List Int).length = if k < 16 then 0 else 7 from room_putE k]
      rw [room_putQ] at HLk2
      have hbk : Below W.heap.size W wr2 := Bm (Bt HBk hbr) hmk (fun i h => Nat.le_trans lw1 h.1)
      have HLK := Lib.hid HLk2
      have HBK := Lib.hid hbk
      clear HLk hb7 hmk hbr hbo HLk2 hbk
      by_cases h16 : k < 16
      · rw [if_pos h16]
        have h16' : (k : Int) < 16 := by omega
        go_wp2_with fail
        refine (len_in 2 _ HLK.out).mono ?_
        rintro e w' ⟨rfl, rfl⟩
        rw [room_len]
        have hl : ((min (k + 1) 16 : Nat) : Int) ≤ 16 := by omega
        generalize ((min (k + 1) 16 : Nat) : Int) = L at hl ⊢
        go_wp2_with fail
        go_roundw
        case rel => exact ⟨k + 1, by omega, by go_num, HLK.out, HBK.out⟩
        case measure => simp [intOf]; omega
      · rw [if_neg h16]
        have h16' : ¬ (k : Int) < 16 := by omega
        go_wp2_with fail
        refine (len_in 2 _ HLK.out).mono ?_
        rintro e w' ⟨rfl, rfl⟩
        rw [room_len]
        have hl : ((min (k + 1) 16 : Nat) : Int) ≤ 16 := by omega
        generalize ((min (k + 1) 16 : Nat) : Int) = L at hl ⊢
        go_wp2_with fail
        go_roundw
        case rel => exact ⟨k + 1, by omega, by go_num, HLK.out, HBK.out⟩
        case measure => simp [intOf]; omega
    · have hlt' : ¬ (k : Int) < (m : Int) := by omega
      obtain rfl : k = m := by omega
      clear hk hlt
      by_cases h16 : k < 16
      · have h16' : (k : Int) < 16 := by omega
        go_wp2_with fail
        refine (len_in 2 _ HLk).mono ?_
        rintro e w' ⟨rfl, rfl⟩
        rw [room_len, show min k 16 = k from by omega]
        go_wp2_with fail
        go_ret
        exact ⟨rfl, HBk⟩
      · have h16' : ¬ (k : Int) < 16 := by omega
        rw [room_full k (by omega)] at HLk
        go_wp2_with fail
        refine (frame_any 1 2 _ 1 1 _).mono ?_
        rintro e a1 ⟨rfl, hbo⟩
        have hbr := Bt (Ba (B0 wr) (.cells #[.int .u8 0] 5)) hbo
        have hb7 := (Blk.new wr 5 (bts [0]).toArray).later hbo
        have lr : wr.heap.size < a1.heap.size := Nat.lt_of_lt_of_le (by simp) hbo.size
        have HL3 := HLk.keep (L := fun j => j = wr.heap.size) hbr (fun j hj => .inl ⟨by omega, by omega⟩)
        replace HBk := Bt HBk hbr
        clear HLk hbr hbo
        go_wp2_with fail
        refine (takes_in 2 1 2 _ 1 [0] _ HL3 (rd_lit _ _ [0] 5 hb7 (by simp [maxLen])) (fun j hj => ⟨by omega, .inr hj⟩)).mono ?_
        rintro e a2 ⟨rfl, HL4, hm⟩
        rw [kr_t]
        change RelIn _ _ _ _ rB at HL4
        replace HBk := Bm HBk hm (fun i h => Nat.le_trans lw1 h.1)
        clear hm HL3 hb7
        go_wp2_with fail
        refine (len_in 2 _ HL4).mono ?_
        rintro e w' ⟨rfl, rfl⟩
        rw [kr_l]
        go_wp2_with fail
        refine (frame_any 3 2 _ 1 1 _).mono ?_
        rintro e a3 ⟨rfl, hbo⟩
        have hbr := Bt (Ba (B0 a2) (.cells #[.int .u8 99] 5)) hbo
        have hb7 := (Blk.new a2 5 (bts [99]).toArray).later hbo
        have lr : a2.heap.size < a3.heap.size := Nat.lt_of_lt_of_le (by simp) hbo.size
        replace HL4 := HL4.below hbr
        replace HBk := Bt HBk hbr
        clear hbr hbo
        go_wp2_with fail
        refine (put_in 3 2 _ 1 [99] _ HL4 (rd_lit _ _ [99] 5 hb7 (by simp [maxLen])) (fun j hj => by omega)).mono ?_
        rintro e a4 ⟨rfl, HL5, hm⟩
        rw [kr_1]
        change RelIn _ _ _ _ rC at HL5
        replace HBk := Bm HBk hm (fun i h => Nat.le_trans lw1 h.1)
        clear hm HL4 hb7
        go_wp2_with fail
        refine (frame_any 3 2 _ 1 1 _).mono ?_
        rintro e a5 ⟨rfl, hbo⟩
        have hbr := Bt (Ba (B0 a4) (.cells #[.int .u8 99] 5)) hbo
        have hb7 := (Blk.new a4 5 (bts [99]).toArray).later hbo
        have lr : a4.heap.size < a5.heap.size := Nat.lt_of_lt_of_le (by simp) hbo.size
        replace HL5 := HL5.below hbr
        replace HBk := Bt HBk hbr
        clear hbr hbo
        go_wp2_with fail
        refine (put_in 3 2 _ 1 [99] _ HL5 (rd_lit _ _ [99] 5 hb7 (by simp [maxLen])) (fun j hj => by omega)).mono ?_
        rintro e a6 ⟨rfl, HL6, hm⟩
        rw [kr_2]
        change RelIn _ _ _ _ rD at HL6
        replace HBk := Bm HBk hm (fun i h => Nat.le_trans lw1 h.1)
        clear hm HL5 hb7
        go_wp2_with fail
        refine (frame_any 2 3 _ 1 1 _).mono ?_
        rintro e a7 ⟨rfl, hbo⟩
        have hbr := Bt (Ba (B0 a6) (.cells #[.int .u8 1] 5)) hbo
        have hb7 := (Blk.new a6 5 (bts [1]).toArray).later hbo
        have lr : a6.heap.size < a7.heap.size := Nat.lt_of_lt_of_le (by simp) hbo.size
        replace HL6 := HL6.below hbr
        replace HBk := Bt HBk hbr
        clear hbr hbo
        go_wp2_with fail
        refine (put_in 2 3 _ 1 [1] _ HL6 (rd_lit _ _ [1] 5 hb7 (by simp [maxLen])) (fun j hj => by omega)).mono ?_
        rintro e a8 ⟨rfl, HL7, hm⟩
        rw [kr_3]
        replace HBk := Bm HBk hm (fun i h => Nat.le_trans lw1 h.1)
        clear hm HL6 hb7 HL7
        go_wp2_with fail
        go_ret
        exact ⟨rfl, HBk⟩
end Go.Proofs.Ytdnbbjhickjnmaa
