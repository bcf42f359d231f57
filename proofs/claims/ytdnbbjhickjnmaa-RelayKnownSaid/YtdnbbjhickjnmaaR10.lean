/- works: the chapter's relay and paths. -/
import Derived.Test.YtdnbbjhickjnmaaR9
namespace Go.Proofs.Ytdnbbjhickjnmaa
open Go.RowKit
set_option maxRecDepth 20000
set_option linter.unusedVariables false
set_option linter.unusedSimpArgs false

def q0 : Nat → List Dg := fun _ => []
def q1 : Nat → List Dg := rputQ q0 1 2 [7]
def q2 : Nat → List Dg := rputQ q1 3 2 [8]
def q3 : Nat → List Dg := takQ q2 2
def q4 : Nat → List Dg := takQ q3 2
theorem k_put1 : rputE q0 1 2 ([7] : List Int).length = 0 := by kernel_rfl
theorem k_put2 : rputE q1 3 2 ([8] : List Int).length = 0 := by kernel_rfl
theorem k_len2 : lenF q2 2 = 2 := by kernel_rfl
theorem k_t1 : takesF q2 2 1 2 [7] = true := by kernel_rfl
theorem k_t2 : takesF q3 2 3 2 [8] = true := by kernel_rfl
theorem k_len0 : lenF q4 2 = 0 := by kernel_rfl
def F8 : Nat := 4620693217682128896
def F4 : Nat := 4616189618054758400
def F7 : Nat := 4619567317775286272
def F5 : Nat := 4617315517961601024
def FI : Nat := 9218868437227405312
def l0 : Pth := [(0, false), (0, false), (0, false)]
def l1 : Pth := [(4620693217682128896, true), (0, false), (0, false)]
def l2 : Pth := [(4619567317775286272, true), (0, false), (0, false)]
def l3 : Pth := [(4619567317775286272, true), (9218868437227405312, false), (0, false)]
def l4 : Pth := [(4619567317775286272, true), (9218868437227405312, false), (9218868437227405312, false)]
def l5 : Pth := [(9218868437227405312, false), (9218868437227405312, false), (9218868437227405312, false)]
def l6 : Pth := [(9218868437227405312, false), (9218868437227405312, false), (4617315517961601024, true)]
theorem k_b0 : bestF l0 = 0 := by kernel_rfl
theorem k_r1 : repE l0 0 4620693217682128896 = 0 := by kernel_rfl
theorem k_l1 : repL l0 0 4620693217682128896 = l1 := by kernel_rfl
theorem k_b1 : bestF l1 = 1 := by kernel_rfl
theorem k_r2 : repE l1 0 4616189618054758400 = 0 := by kernel_rfl
theorem k_l2 : repL l1 0 4616189618054758400 = l2 := by kernel_rfl
theorem k_s2 : scoreF l2 0 = 4619567317775286272 := by kernel_rfl
theorem k_x3 : lostE l2 1 = 0 := by kernel_rfl
theorem k_l3 : lostL l2 1 = l3 := by kernel_rfl
theorem k_x4 : lostE l3 2 = 0 := by kernel_rfl
theorem k_l4 : lostL l3 2 = l4 := by kernel_rfl
theorem k_b4 : bestF l4 = 0 := by kernel_rfl
theorem k_x5 : lostE l4 0 = 0 := by kernel_rfl
theorem k_l5 : lostL l4 0 = l5 := by kernel_rfl
theorem k_b5 : bestF l5 = 0 := by kernel_rfl
theorem k_r6 : repE l5 2 4617315517961601024 = 0 := by kernel_rfl
theorem k_l6 : repL l5 2 4617315517961601024 = l6 := by kernel_rfl
theorem k_s6 : scoreF l6 2 = 4617315517961601024 := by kernel_rfl
theorem k_b6 : bestF l6 = 2 := by kernel_rfl
theorem k_o1 : FloatKind.f64.format.order 4619567317775286272 4619567317775286272 = some .eq := by kernel_rfl
theorem k_o2 : FloatKind.f64.format.order 4617315517961601024 4617315517961601024 = some .eq := by kernel_rfl
def goodB (l : Pth) : Bool := l.all fun x => decide (x.1 ≤ 9218868437227405312)
theorem good_of {l : Pth} (h : goodB l = true) : ∀ x ∈ l, Good x.1 := fun x hx => .inl (by have := List.all_eq_true.1 h x hx; simpa using this)
theorem g0 : goodB l0 = true := by kernel_rfl
theorem g1 : goodB l1 = true := by kernel_rfl
theorem g5 : goodB l5 = true := by kernel_rfl

theorem rd_lit (w : World) (g : Nat) (cs : List Int) (t : TypeId) (h : Blk w g t (bts cs).toArray) (hl : cs.length ≤ maxLen) : Rd w (fun j => j = g) 1 (.slice (some ⟨g, 0, none⟩) cs.length cs.length) cs.length (bts cs) :=
  ⟨by simp [bts], _, cs.length, rfl, Nat.le_refl _, hl, fun _ => ⟨g, 0, rfl, rfl, fun j u hu => by rw [h.cell]; simpa using hu⟩⟩

set_option maxHeartbeats 4000000 in
theorem works_any (w : World) : Calls Try.prog 24 #[] w fun e w' => e = .returned (.bool true) ∧ Below w.heap.size w w' := by
  go_enter Try.func24, Try.ntmps24
  go_wp2_with fail
  refine (new_in (fun _ => False) w (fun i h => h.elim) w.heap.size (Nat.le_refl _)).mono ?_
  rintro e w0 ⟨rfl, HL, hb⟩
  change RelIn _ _ _ _ q0 at HL
  have HW := hb
  clear hb

  go_wp2_with fail
  refine (frame_any 1 2 _ 1 1 _).mono ?_
  rintro e a1 ⟨rfl, hb⟩
  have B7 := (Blk.new w0 5 (bts [7]).toArray).later hb
  have hb12 : Below w0.heap.size w0 a1 := Bt (Ba (B0 w0) _) hb
  replace HW := Bt HW hb12
  have lt1 : w0.heap.size < a1.heap.size := Nat.lt_of_lt_of_le (by simp) hb.size
  have HL' := HL.keep (L := fun j => j = w0.heap.size) hb12 (fun j hj => .inl (by omega))
  clear hb hb12 HL
  go_wp2_with fail
  refine (put_in 1 2 _ 1 [7] _ HL' (rd_lit _ _ [7] 5 B7 (by simp [maxLen])) (fun j hj => by omega)).mono ?_
  rintro e a2 ⟨rfl, HL, hm⟩
  rw [k_put1]
  change RelIn _ _ _ _ q1 at HL
  replace HW := Bm HW hm (fun i h => h.1)
  clear hm B7 HL' 
  go_wp2_with fail
  refine (frame_any 3 2 _ 1 1 _).mono ?_
  rintro e a3 ⟨rfl, hb⟩
  have B7 := (Blk.new a2 5 (bts [8]).toArray).later hb
  have hb12 : Below a2.heap.size a2 a3 := Bt (Ba (B0 a2) _) hb
  replace HW := Bt HW hb12
  have lt3 : a2.heap.size < a3.heap.size := Nat.lt_of_lt_of_le (by simp) hb.size
  have HL' := HL.keep (L := fun j => j = a2.heap.size) hb12 (fun j hj => .inl (by omega))
  clear hb hb12 HL
  go_wp2_with fail
  refine (put_in 3 2 _ 1 [8] _ HL' (rd_lit _ _ [8] 5 B7 (by simp [maxLen])) (fun j hj => by omega)).mono ?_
  rintro e a4 ⟨rfl, HL, hm⟩
  rw [k_put2]
  change RelIn _ _ _ _ q2 at HL
  replace HW := Bm HW hm (fun i h => h.1)
  clear hm B7 HL' 
  go_wp2_with fail
  refine (len_in 2 _ HL).mono ?_
  rintro e w' ⟨rfl, rfl⟩
  rw [k_len2]
  go_wp2_with fail
  refine (frame_any 1 2 _ 1 1 _).mono ?_
  rintro e a5 ⟨rfl, hb⟩
  have B7 := (Blk.new a4 5 (bts [7]).toArray).later hb
  have hb12 : Below a4.heap.size a4 a5 := Bt (Ba (B0 a4) _) hb
  replace HW := Bt HW hb12
  have lt5 : a4.heap.size < a5.heap.size := Nat.lt_of_lt_of_le (by simp) hb.size
  have HL' := HL.keep (L := fun j => j = a4.heap.size) hb12 (fun j hj => .inl (by omega))
  clear hb hb12 HL
  go_wp2_with fail
  refine (takes_in 2 1 2 _ 1 [7] _ HL' (rd_lit _ _ [7] 5 B7 (by simp [maxLen])) (fun j hj => ⟨by omega, .inr hj⟩)).mono ?_
  rintro e a6 ⟨rfl, HL, hm⟩
  rw [k_t1]
  change RelIn _ _ _ _ q3 at HL
  replace HW := Bm HW hm (fun i h => h.1)
  clear hm B7 HL' 
  go_wp2_with fail
  refine (frame_any 3 2 _ 1 1 _).mono ?_
  rintro e a7 ⟨rfl, hb⟩
  have B7 := (Blk.new a6 5 (bts [8]).toArray).later hb
  have hb12 : Below a6.heap.size a6 a7 := Bt (Ba (B0 a6) _) hb
  replace HW := Bt HW hb12
  have lt7 : a6.heap.size < a7.heap.size := Nat.lt_of_lt_of_le (by simp) hb.size
  have HL' := HL.keep (L := fun j => j = a6.heap.size) hb12 (fun j hj => .inl (by omega))
  clear hb hb12 HL
  go_wp2_with fail
  refine (takes_in 2 3 2 _ 1 [8] _ HL' (rd_lit _ _ [8] 5 B7 (by simp [maxLen])) (fun j hj => ⟨by omega, .inr hj⟩)).mono ?_
  rintro e a8 ⟨rfl, HL, hm⟩
  rw [k_t2]
  change RelIn _ _ _ _ q4 at HL
  replace HW := Bm HW hm (fun i h => h.1)
  clear hm B7 HL' 
  go_wp2_with fail
  refine (len_in 2 _ HL).mono ?_
  rintro e w' ⟨rfl, rfl⟩
  rw [k_len0]
  go_wp2_with fail
  refine (begin_any 2 (by omega) _).mono ?_
  rintro e b0 ⟨rfl, hb, hp, hz⟩
  change PathsAt _ _ _ l0 at hp
  obtain ⟨g, hg⟩ : ∃ g, g = a8.heap.size := ⟨_, rfl⟩
  rw [← hg] at hp ⊢
  have hgw : w.heap.size ≤ g := by rw [hg]; exact HW.size
  replace HW := Bt HW hb
  clear hb hz HL hg
  go_wp2_with fail
  refine (best_any _ g _ _ hp).mono ?_
  rintro e b1 ⟨rfl, hb⟩
  rw [k_b0]
  replace hp := hp.later hb
  replace HW := Bt HW hb
  clear hb
  go_wp2_with fail
  refine (report_any _ g _ 0 4620693217682128896 (by omega) (good_of g0) _ hp).mono ?_
  rintro e b2 ⟨rfl, hm, hp⟩
  rw [k_r1]
  rw [k_l1] at hp
  replace HW := Bm HW hm (fun i h => by omega)
  clear hm
  go_wp2_with fail
  refine (best_any _ g _ _ hp).mono ?_
  rintro e b3 ⟨rfl, hb⟩
  rw [k_b1]
  replace hp := hp.later hb
  replace HW := Bt HW hb
  clear hb
  go_wp2_with fail
  refine (report_any _ g _ 0 4616189618054758400 (by omega) (good_of g1) _ hp).mono ?_
  rintro e b4 ⟨rfl, hm, hp⟩
  rw [k_r2]
  rw [k_l2] at hp
  replace HW := Bm HW hm (fun i h => by omega)
  clear hm
  go_wp2_with fail
  refine (score_any _ g _ 0 _ hp).mono ?_
  rintro e w' ⟨rfl, rfl⟩
  rw [k_s2]
  have ho := k_o1
  go_wp2_with fail
  refine (lost_any _ g _ 1 _ hp).mono ?_
  rintro e b5 ⟨rfl, hm, hp⟩
  rw [k_x3]
  rw [k_l3] at hp
  replace HW := Bm HW hm (fun i h => by omega)
  clear hm
  go_wp2_with fail
  refine (lost_any _ g _ 2 _ hp).mono ?_
  rintro e b6 ⟨rfl, hm, hp⟩
  rw [k_x4]
  rw [k_l4] at hp
  replace HW := Bm HW hm (fun i h => by omega)
  clear hm
  go_wp2_with fail
  refine (best_any _ g _ _ hp).mono ?_
  rintro e b7 ⟨rfl, hb⟩
  rw [k_b4]
  replace hp := hp.later hb
  replace HW := Bt HW hb
  clear hb
  go_wp2_with fail
  refine (lost_any _ g _ 0 _ hp).mono ?_
  rintro e b8 ⟨rfl, hm, hp⟩
  rw [k_x5]
  rw [k_l5] at hp
  replace HW := Bm HW hm (fun i h => by omega)
  clear hm
  go_wp2_with fail
  refine (best_any _ g _ _ hp).mono ?_
  rintro e b9 ⟨rfl, hb⟩
  rw [k_b5]
  replace hp := hp.later hb
  replace HW := Bt HW hb
  clear hb
  go_wp2_with fail
  refine (report_any _ g _ 2 4617315517961601024 (by omega) (good_of g5) _ hp).mono ?_
  rintro e b10 ⟨rfl, hm, hp⟩
  rw [k_r6]
  rw [k_l6] at hp
  replace HW := Bm HW hm (fun i h => by omega)
  clear hm
  go_wp2_with fail
  refine (score_any _ g _ 2 _ hp).mono ?_
  rintro e w' ⟨rfl, rfl⟩
  rw [k_s6]
  have ho := k_o2
  go_wp2_with fail
  refine (best_any _ g _ _ hp).mono ?_
  rintro e b11 ⟨rfl, hb⟩
  rw [k_b6]
  replace hp := hp.later hb
  replace HW := Bt HW hb
  clear hb
  go_wp2_with fail
  go_ret
  exact ⟨rfl, HW⟩
end Go.Proofs.Ytdnbbjhickjnmaa
