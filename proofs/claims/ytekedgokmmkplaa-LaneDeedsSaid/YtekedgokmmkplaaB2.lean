/- works: the chapter's lane. -/
import Derived.Test.YtekedgokmmkplaaB1
namespace Go.Proofs.Ytekedgokmmkplaa
open Go.RowKit
set_option linter.unusedVariables false
set_option linter.unusedSimpArgs false

def d7 : Dg := ⟨1, 2, [7]⟩
def d8 : Dg := ⟨21, 11, [8]⟩
theorem k_put1E : putE [] 1 2 = 0 := by kernel_rfl
theorem k_put1L : putL [] 1 2 [7] = [d7] := by kernel_rfl
theorem k_put2E : putE [d7] 21 11 = 0 := by kernel_rfl
theorem k_put2L : putL [d7] 21 11 [8] = [d7, d8] := by kernel_rfl
theorem k_dblE : dblE [d7, d8] 0 = 0 := by kernel_rfl
theorem k_dblL : dblL [d7, d8] 0 = [d7, d8, d7] := by kernel_rfl
theorem k_t1 : takesF [d7, d8, d7] 0 1 2 [7] = true := by kernel_rfl
theorem k_t1L : takL [d7, d8, d7] 0 = [d8, d7] := by kernel_rfl
theorem k_t2 : takesF [d8, d7] 1 1 2 [7] = true := by kernel_rfl
theorem k_t2L : takL [d8, d7] 1 = [d8] := by kernel_rfl
theorem k_t3 : takesF [d8] 0 21 11 [8] = true := by kernel_rfl
theorem k_t3L : takL [d8] 0 = [] := by kernel_rfl
theorem k_cutE : cutE 2097154 = 0 := by kernel_rfl
theorem k_cutS : cutS 0 2097154 = 2097154 := by kernel_rfl
theorem k_r1 : reachF 2097154 1 21 = true := by kernel_rfl
theorem k_r2 : reachF 2097154 1 2 = false := by kernel_rfl
theorem k_r3 : reachF 2097154 2 22 = true := by kernel_rfl

theorem rd_lit (w : World) (g : Nat) (cs : List Int) (t : TypeId) (h : Blk w g t (bts cs).toArray) (hl : cs.length ≤ maxLen) : Rd w (fun j => j = g) 1 (.slice (some ⟨g, 0, none⟩) cs.length cs.length) cs.length (bts cs) :=
  ⟨by simp [bts], _, cs.length, rfl, Nat.le_refl _, hl, fun _ => ⟨g, 0, rfl, rfl, fun j u hu => by rw [h.cell]; simpa using hu⟩⟩

set_option maxHeartbeats 4000000 in
theorem works_any (w : World) : Calls Try.prog 22 #[] w fun e w' => e = .returned (.bool true) ∧ Below w.heap.size w w' := by
  go_enter Try.func22, Try.ntmps22
  go_wp2_with fail
  refine (new_in (fun _ => False) w (fun i h => h.elim) w.heap.size (Nat.le_refl _)).mono ?_
  rintro e w1 ⟨rfl, HL1, hb1⟩
  have lw1 := hb1.size
  go_wp2_with fail
  refine (one_any _ 1 1 _).mono ?_
  rintro e w2 ⟨rfl, hb2⟩
  have hb12 : Below w1.heap.size w1 w2 := Bt (Ba (Ba (Ba (B0 w1) _) _) _) hb2
  have lw2 : w1.heap.size + 2 < w2.heap.size := Nat.lt_of_lt_of_le (by simp) hb2.size
  have HL2 := HL1.keep (L := fun j => w1.heap.size ≤ j ∧ j < w2.heap.size) hb12 (fun j hj => .inl hj)
  have b8 := (((Blk.new w1 5 (bts [8]).toArray).alloc (.cells #[.int .i64 21, .int .i64 11, .slice (some ⟨w1.heap.size, 0, none⟩) 1 1] 30)).alloc (.cells #[.int .u8 7] 5)).later hb2
  have bx := ((Blk.new1 w1 (.cells #[.int .u8 8] 5) 30 #[.int .i64 21, .int .i64 11, .slice (some ⟨w1.heap.size, 0, none⟩) 1 1]).alloc (.cells #[.int .u8 7] 5)).later hb2
  have b7 : Blk w2 (w1.heap.size + 1 + 1) 5 (bts [7]).toArray := (Blk.new2 w1 _ _ 5 _).later hb2
  have HW2 := Bt hb1 hb12
  clear hb2 hb12 HL1
  go_wp2_with fail
  refine (put_in 1 2 _ 1 [7] _ HL2 (rd_lit _ _ [7] 5 b7 (by simp [maxLen])) (fun j hj => by omega) (by simp)).mono ?_
  rintro e w3 ⟨rfl, HL3, hm3⟩
  have HW3 := Bm HW2 hm3 (fun i h => h.1)
  rw [k_put1E]
  rw [k_put1L] at HL3
  have lw3 := hm3.size
  replace b8 := b8.kept hm3 (fun h => h.2 ⟨by omega, by omega⟩)
  replace bx := bx.kept hm3 (fun h => h.2 ⟨by omega, by omega⟩)
  obtain ⟨x0, x1, x2, _⟩ := blk3 bx
  clear b7 HL2
  go_wp2_with fail
  refine (put_in 21 11 _ 1 [8] _ HL3 (rd_lit _ _ [8] 5 b8 (by simp [maxLen])) (fun j hj => by omega) (by simp)).mono ?_
  rintro e w4 ⟨rfl, HL4, hm4⟩
  have HW4 := Bm HW3 hm4 (fun i h => h.1)
  rw [k_put2E]
  rw [k_put2L] at HL4
  have lw4 := hm4.size
  replace b8 := b8.kept hm4 (fun h => h.2 ⟨by omega, by omega⟩)
  replace bx := bx.kept hm4 (fun h => h.2 ⟨by omega, by omega⟩)
  clear HL3 x0 x1 x2
  go_wp2_with fail
  refine (double_in 0 _ HL4).mono ?_
  rintro e w5 ⟨rfl, HL5, hm5⟩
  have HW5 := Bm HW4 hm5 (fun i h => h.1)
  rw [k_dblE]
  rw [k_dblL] at HL5
  have lw5 := hm5.size
  replace b8 := b8.kept hm5 (fun h => h.2 ⟨by omega, by omega⟩)
  replace bx := bx.kept hm5 (fun h => h.2 ⟨by omega, by omega⟩)
  clear HL4
  go_wp2_with fail
  refine (one_any _ 1 1 _).mono ?_
  rintro e w6 ⟨rfl, hb6⟩
  have HW6 := Bt HW5 (Bt (Ba (B0 w5) _) hb6)
  have lw6 : w5.heap.size < w6.heap.size := Nat.lt_of_lt_of_le (by simp) hb6.size
  have b7 := (Blk.new w5 5 (bts [7]).toArray).later hb6
  have HL6 := HL5.keep (L := fun j => (w1.heap.size ≤ j ∧ j < w2.heap.size) ∨ j = w5.heap.size) (Bt (Ba (B0 w5) _) hb6) (fun j hj => hj.elim .inr (fun h => .inl (by omega)))
  replace b8 := (b8.alloc (.cells #[.int .u8 7] 5)).later hb6
  replace bx := (bx.alloc (.cells #[.int .u8 7] 5)).later hb6
  clear HL5 hb6
  go_wp2_with fail
  refine (takes_in 0 1 2 _ 1 [7] _ HL6 (rd_lit _ _ [7] 5 b7 (by simp [maxLen])) (fun j hj => ⟨by omega, .inr (.inr hj)⟩)).mono ?_
  rintro e w7 ⟨rfl, HL7, hm7⟩
  have HW7 := Bm HW6 hm7 (fun i h => h.1)
  rw [k_t1]
  rw [k_t1L] at HL7
  have lw7 := hm7.size
  replace b8 := b8.kept hm7 (fun h => h.2 (.inl ⟨by omega, by omega⟩))
  replace bx := bx.kept hm7 (fun h => h.2 (.inl ⟨by omega, by omega⟩))
  clear HL6 b7
  go_wp2_with fail
  refine (one_any _ 1 1 _).mono ?_
  rintro e w8 ⟨rfl, hb8⟩
  have HW8 := Bt HW7 (Bt (Ba (B0 w7) _) hb8)
  have lw8 : w7.heap.size < w8.heap.size := Nat.lt_of_lt_of_le (by simp) hb8.size
  have b7 := (Blk.new w7 5 (bts [7]).toArray).later hb8
  have HL8 := HL7.keep (L := fun j => (w1.heap.size ≤ j ∧ j < w2.heap.size) ∨ j = w7.heap.size) (Bt (Ba (B0 w7) _) hb8) (fun j hj => hj.elim (fun h => .inr (.inl h)) (fun h => .inl (by omega)))
  replace b8 := (b8.alloc (.cells #[.int .u8 7] 5)).later hb8
  replace bx := (bx.alloc (.cells #[.int .u8 7] 5)).later hb8
  clear HL7 hb8
  go_wp2_with fail
  refine (takes_in 1 1 2 _ 1 [7] _ HL8 (rd_lit _ _ [7] 5 b7 (by simp [maxLen])) (fun j hj => ⟨by omega, .inr (.inr hj)⟩)).mono ?_
  rintro e w9 ⟨rfl, HL9, hm9⟩
  have HW9 := Bm HW8 hm9 (fun i h => h.1)
  rw [k_t2]
  rw [k_t2L] at HL9
  have lw9 := hm9.size
  replace b8 := b8.kept hm9 (fun h => h.2 (.inl ⟨by omega, by omega⟩))
  replace bx := bx.kept hm9 (fun h => h.2 (.inl ⟨by omega, by omega⟩))
  obtain ⟨x0, x1, x2, _⟩ := blk3 bx
  clear HL8 b7
  go_wp2_with fail
  refine (len_in _ HL9).mono ?_
  rintro e w' ⟨rfl, rfl⟩
  go_wp2_with fail
  refine (takes_in 0 21 11 _ 1 [8] _ HL9 (rd_lit _ _ [8] 5 b8 (by simp [maxLen])) (fun j hj => ⟨by omega, .inr (.inl (by omega))⟩)).mono ?_
  rintro e w10 ⟨rfl, HL10, hm10⟩
  have HW10 := Bm HW9 hm10 (fun i h => h.1)
  rw [k_t3]
  rw [k_t3L] at HL10
  have lw10 := hm10.size
  clear HL9 b8 bx x0 x1 x2
  go_wp2_with fail
  refine (cut_in 2097154 (by omega) _ HL10).mono ?_
  rintro e w11 ⟨rfl, HL11, hm11⟩
  have HW11 := Bm HW10 hm11 (fun i h => h.1)
  rw [k_cutE]
  rw [k_cutS] at HL11
  clear HL10
  go_wp2_with fail
  refine (reaches_in 1 21 _ HL11).mono ?_
  rintro e w' ⟨rfl, n1, rfl⟩
  rw [k_r1]
  replace HL11 := HL11.below (BdN (B0 w11) n1)
  go_wp2_with fail
  refine (reaches_in 1 2 _ HL11).mono ?_
  rintro e w' ⟨rfl, n2, rfl⟩
  rw [k_r2]
  replace HL11 := HL11.below (BdN (B0 _) n2)
  rw [World.drewN_drewN] at HL11
  go_wp2_with fail
  refine (reaches_in 2 22 _ HL11).mono ?_
  rintro e w' ⟨rfl, n3, rfl⟩
  rw [k_r3]
  go_wp2_with fail
  go_ret
  exact ⟨rfl, BdN HW11 _⟩
end Go.Proofs.Ytekedgokmmkplaa
