/- The statement RelayKnown: its walk. -/
import Derived.Test.YtdnbbjhickjnmaaK1
import Derived.Deep.Cut
import Derived.Deep.CutBlock
namespace Go.Proofs.Ytdnbbjhickjnmaa
open Go.RowKit
set_option maxRecDepth 100000
set_option linter.unusedVariables false
set_option linter.unusedSimpArgs false

theorem kk_1 : (takD q0 9).f = 0 := by decide +kernel
theorem kk_2 : (takD q0 9).t = 0 := by decide +kernel
theorem kk_3 : (takD q0 9).bs.length = 0 := by decide +kernel
theorem kk_4 : takE q0 9 = 220 := by decide +kernel
theorem kk_5 : takQ q0 9 = q0 := by unfold takQ; rw [if_neg (by rw [kk_4]; decide)]
theorem kk_6 : (takD q0 0).f = 0 := by decide +kernel
theorem kk_7 : (takD q0 0).t = 0 := by decide +kernel
theorem kk_8 : (takD q0 0).bs.length = 0 := by decide +kernel
theorem kk_9 : takE q0 0 = 220 := by decide +kernel
theorem kk_10 : takQ q0 0 = q0 := by unfold takQ; rw [if_neg (by rw [kk_9]; decide)]
theorem kk_11 : (takD q0 1).f = 0 := by decide +kernel
theorem kk_12 : (takD q0 1).t = 0 := by decide +kernel
theorem kk_13 : (takD q0 1).bs.length = 0 := by decide +kernel
theorem kk_14 : takE q0 1 = 240 := by decide +kernel
theorem kk_15 : takQ q0 1 = q0 := by unfold takQ; rw [if_neg (by rw [kk_14]; decide)]
theorem kk_16 : rputE q0 0 1 ([] : List Int).length = 220 := by decide +kernel
theorem kk_17 : rputQ q0 0 1 [] = q0 := by unfold rputQ; rw [if_neg (by rw [kk_16]; decide)]
theorem kk_18 : rputE q0 1 9 ([] : List Int).length = 220 := by decide +kernel
theorem kk_19 : rputQ q0 1 9 [] = q0 := by unfold rputQ; rw [if_neg (by rw [kk_18]; decide)]
theorem kk_20 : rputE q0 1 1 ([] : List Int).length = 220 := by decide +kernel
theorem kk_21 : rputQ q0 1 1 [] = q0 := by unfold rputQ; rw [if_neg (by rw [kk_20]; decide)]
theorem kk_22 : chkE 0 1 ([] : List Int).length = 220 := by decide +kernel
theorem kk_23 : pkR 0 1 [] = [] := by decide +kernel
theorem kk_24 : unF [1, 2, 18, 1] = 0 := by decide +kernel
theorem kk_25 : unT [1, 2, 18, 1] = 0 := by decide +kernel
theorem kk_26 : unB [1, 2, 18, 1] = [] := by decide +kernel
theorem kk_27 : unE [1, 2, 18, 1] = 5 := by decide +kernel
theorem kk_28 : unF [1, 2, 0, 0, 9] = 0 := by decide +kernel
theorem kk_29 : unT [1, 2, 0, 0, 9] = 0 := by decide +kernel
theorem kk_30 : unB [1, 2, 0, 0, 9] = [] := by decide +kernel
theorem kk_31 : unE [1, 2, 0, 0, 9] = 4 := by decide +kernel
theorem kk_32 : unF [1, 1, 0, 0] = 0 := by decide +kernel
theorem kk_33 : unT [1, 1, 0, 0] = 0 := by decide +kernel
theorem kk_34 : unB [1, 1, 0, 0] = [] := by decide +kernel
theorem kk_35 : unE [1, 1, 0, 0] = 220 := by decide +kernel
theorem kk_36 : unF [1, 2, 0] = 0 := by decide +kernel
theorem kk_37 : unT [1, 2, 0] = 0 := by decide +kernel
theorem kk_38 : unB [1, 2, 0] = [] := by decide +kernel
theorem kk_39 : unE [1, 2, 0] = 3 := by decide +kernel
theorem kk_40 : unF [9, 2, 0, 1, 5] = 0 := by decide +kernel
theorem kk_41 : unT [9, 2, 0, 1, 5] = 0 := by decide +kernel
theorem kk_42 : unB [9, 2, 0, 1, 5] = [] := by decide +kernel
theorem kk_43 : unE [9, 2, 0, 1, 5] = 220 := by decide +kernel
theorem kk_44 : unF [] = 0 := by decide +kernel
theorem kk_45 : unT [] = 0 := by decide +kernel
theorem kk_46 : unB [] = [] := by decide +kernel
theorem kk_47 : unE [] = 3 := by decide +kernel
theorem rep_nan (x : Nat) (h : tickB x = false) : repE (List.replicate 4 (0, false) : Pth) 3 x = 2 := by unfold repE; rw [h]; rfl
theorem repL_nan (x : Nat) (h : tickB x = false) : repL (List.replicate 4 (0, false) : Pth) 3 x = (List.replicate 4 (0, false) : Pth) := by unfold repL; rw [h]; rfl
theorem kk_48 : goodB (List.replicate 4 (0, false) : Pth) = true := by kernel_rfl
theorem kk_49 : repE (List.replicate 4 (0, false) : Pth) 4 4607182418800017408 = 9 := by kernel_rfl
theorem kk_50 : repL (List.replicate 4 (0, false) : Pth) 4 4607182418800017408 = (List.replicate 4 (0, false) : Pth) := by kernel_rfl
theorem kk_51 : repE (List.replicate 4 (0, false) : Pth) (-1) 4607182418800017408 = 9 := by kernel_rfl
theorem kk_52 : repL (List.replicate 4 (0, false) : Pth) (-1) 4607182418800017408 = (List.replicate 4 (0, false) : Pth) := by kernel_rfl
theorem kk_53 : repE (List.replicate 4 (0, false) : Pth) 4 13830554455654793216 = 9 := by kernel_rfl
theorem kk_54 : repL (List.replicate 4 (0, false) : Pth) 4 13830554455654793216 = (List.replicate 4 (0, false) : Pth) := by kernel_rfl
theorem kk_55 : lostE (List.replicate 4 (0, false) : Pth) 4 = 9 := by kernel_rfl
theorem kk_56 : lostL (List.replicate 4 (0, false) : Pth) 4 = (List.replicate 4 (0, false) : Pth) := by kernel_rfl
theorem kk_57 : repE (List.replicate 4 (0, false) : Pth) 3 13830554455654793216 = 2 := by kernel_rfl
theorem kk_58 : repL (List.replicate 4 (0, false) : Pth) 3 13830554455654793216 = (List.replicate 4 (0, false) : Pth) := by kernel_rfl
theorem kk_59 : repE (List.replicate 4 (0, false) : Pth) 3 9218868437227405312 = 2 := by kernel_rfl
theorem kk_60 : repL (List.replicate 4 (0, false) : Pth) 3 9218868437227405312 = (List.replicate 4 (0, false) : Pth) := by kernel_rfl
theorem neg_inf : Op.unary UnOp.neg (Value.float FloatKind.f64 9218868437227405312) = (pure (Value.float FloatKind.f64 18442240474082181120) : Sem Value) := by kernel_rfl
theorem kk_61 : repE (List.replicate 4 (0, false) : Pth) 3 18442240474082181120 = 2 := by kernel_rfl
theorem kk_62 : repL (List.replicate 4 (0, false) : Pth) 3 18442240474082181120 = (List.replicate 4 (0, false) : Pth) := by kernel_rfl
theorem kk_63 : FloatKind.f64.format.order 0 0 = some .eq := by kernel_rfl
theorem kk_64 : scoreF (List.replicate 4 (0, false) : Pth) 3 = 0 := by kernel_rfl
theorem kk_65 : FloatKind.f64.format.order 9218868437227405312 9218868437227405312 = some .eq := by kernel_rfl
theorem kk_66 : scoreF (List.replicate 4 (0, false) : Pth) 4 = 9218868437227405312 := by kernel_rfl
theorem kk_67 : FloatKind.f64.format.order 9218868437227405312 9218868437227405312 = some .eq := by kernel_rfl
theorem kk_68 : scoreF (List.replicate 4 (0, false) : Pth) (-1) = 9218868437227405312 := by kernel_rfl
theorem kk_69 : repE (List.replicate 4 (0, false) : Pth) 3 0 = 0 := by kernel_rfl
theorem kk_70 : repL (List.replicate 4 (0, false) : Pth) 3 0 = [(0, false), (0, false), (0, false), (0, true)] := by kernel_rfl
theorem kk_71 : goodB [(0, false), (0, false), (0, false), (0, true)] = true := by kernel_rfl
theorem kk_72 : repE [(0, false), (0, false), (0, false), (0, true)] 0 9218868437227405311 = 0 := by kernel_rfl
theorem kk_73 : repL [(0, false), (0, false), (0, false), (0, true)] 0 9218868437227405311 = [(9218868437227405311, true), (0, false), (0, false), (0, true)] := by kernel_rfl
theorem kk_74 : goodB [(9218868437227405311, true), (0, false), (0, false), (0, true)] = true := by kernel_rfl
theorem kk_75 : repE [(9218868437227405311, true), (0, false), (0, false), (0, true)] 0 9218868437227405311 = 0 := by kernel_rfl
theorem kk_76 : repL [(9218868437227405311, true), (0, false), (0, false), (0, true)] 0 9218868437227405311 = [(9218868437227405311, true), (0, false), (0, false), (0, true)] := by kernel_rfl
theorem kk_77 : FloatKind.f64.format.order 9218868437227405311 9218868437227405311 = some .eq := by kernel_rfl
theorem kk_78 : scoreF [(9218868437227405311, true), (0, false), (0, false), (0, true)] 0 = 9218868437227405311 := by kernel_rfl
theorem kk_79 : bestF [(9218868437227405311, true), (0, false), (0, false), (0, true)] = 1 := by kernel_rfl
theorem kk_80 : repE [(9218868437227405311, true), (0, false), (0, false), (0, true)] 1 4607182418800017408 = 0 := by kernel_rfl
theorem kk_81 : repL [(9218868437227405311, true), (0, false), (0, false), (0, true)] 1 4607182418800017408 = [(9218868437227405311, true), (4607182418800017408, true), (0, false), (0, true)] := by kernel_rfl
theorem kk_82 : bestF [(9218868437227405311, true), (4607182418800017408, true), (0, false), (0, true)] = 2 := by kernel_rfl
theorem kk_83 : goodB [(9218868437227405311, true), (4607182418800017408, true), (0, false), (0, true)] = true := by kernel_rfl
theorem kk_84 : repE [(9218868437227405311, true), (4607182418800017408, true), (0, false), (0, true)] 2 4607182418800017408 = 0 := by kernel_rfl
theorem kk_85 : repL [(9218868437227405311, true), (4607182418800017408, true), (0, false), (0, true)] 2 4607182418800017408 = [(9218868437227405311, true), (4607182418800017408, true), (4607182418800017408, true), (0, true)] := by kernel_rfl
theorem kk_86 : bestF [(9218868437227405311, true), (4607182418800017408, true), (4607182418800017408, true), (0, true)] = 3 := by kernel_rfl
theorem kk_87 : FloatKind.f64.format.order 9218868437227405312 9218868437227405312 = some .eq := by kernel_rfl
set_option maxHeartbeats 40000000 in
theorem known_walk (W : World) : Calls Try.prog 13 #[] W fun e w' => e = .returned (.bool true) ∧ Below W.heap.size W w' := by
  obtain ⟨Z, hZ⟩ : ∃ B : List Int, B = List.replicate 4608 0 := ⟨_, rfl⟩
  obtain ⟨Y, hY⟩ : ∃ B : List Int, B = List.replicate 4609 0 := ⟨_, rfl⟩
  have hmkZ := mk_zero 4608 4608 rfl (by omega) Z hZ
  have hmkY := mk_zero 4609 4609 rfl (by omega) Y hY
  have HZl := Lib.hid (show Z.length = 4608 by rw [hZ, List.length_replicate])
  have HYl := Lib.hid (show Y.length = 4609 by rw [hY, List.length_replicate])
  obtain ⟨X, hX⟩ : ∃ X, X = pkR 1 2 Z := ⟨_, rfl⟩
  have kz : chkE 1 2 Z.length = 0 := by rw [HZl.out]; decide +kernel
  have ky : chkE 1 2 Y.length = 5 := by rw [HYl.out]; decide +kernel
  have kp : pkR 1 2 Y = [] := by unfold pkR; rw [if_neg (by rw [ky]; decide)]
  have hXp : X = packL 1 2 Z := by rw [hX]; unfold pkR; rw [if_pos kz]
  obtain ⟨u1, u2, u3, u4⟩ := pack_un 1 2 Z kz
  rw [← hXp] at u1 u2 u3 u4
  have hZb : Byt Z := by rw [hZ]; intro x hx; rw [List.eq_of_mem_replicate hx]; omega
  have HXX := Lib.hid (And.intro hX (And.intro kz (And.intro ky (And.intro kp (And.intro u2 (And.intro u3 (And.intro u1 (And.intro u4 (And.intro (show Byt X by rw [hX]; exact pkR_byt hZb) (show X.length ≤ 140737488351232 by have := pkR_len 1 2 Z; rw [← hX] at this; omega))))))))))
  clear hZ hY hX kz ky kp hXp u1 u2 u3 u4 hZb
  go_enter Try.func13, Try.ntmps13
  go_wp2_with fail
  refine (new_in (fun _ => False) W (fun i h => h.elim) W.heap.size (Nat.le_refl _)).mono ?_
  rintro e w1 ⟨rfl, hL, hb⟩
  change RelIn _ _ _ _ q0 at hL
  have HL := Lib.hid hL
  have HB := Lib.hid hb
  clear hL hb
  go_wp2_with fail
  refine (take_in 9 _ (HL.out.below (by repeat (first | exact B0 _ | apply Bs | apply Bd | apply BdN | apply Ba | (simp; done) | (simp; omega))))).mono ?_
  rintro e w2 ⟨A2, c2, rfl, ho, hL, hm⟩
  rw [kk_1, kk_2, kk_3, kk_4]
  rw [kk_5] at hL
  replace HB := Lib.hid (Bm (Bt HB.out (by repeat (first | exact B0 _ | apply Bs | apply Bd | apply BdN | apply Ba | (simp; done) | (simp; omega)))) hm (fun i h => h.1))
  replace HL := Lib.hid hL
  clear ho hm hL
  go_wp2_with fail
  refine (take_in 0 _ (HL.out.below (by repeat (first | exact B0 _ | apply Bs | apply Bd | apply BdN | apply Ba | (simp; done) | (simp; omega))))).mono ?_
  rintro e w3 ⟨A3, c3, rfl, ho, hL, hm⟩
  rw [kk_6, kk_7, kk_8, kk_9]
  rw [kk_10] at hL
  replace HB := Lib.hid (Bm (Bt HB.out (by repeat (first | exact B0 _ | apply Bs | apply Bd | apply BdN | apply Ba | (simp; done) | (simp; omega)))) hm (fun i h => h.1))
  replace HL := Lib.hid hL
  clear ho hm hL
  go_wp2_with fail
  refine (take_in 1 _ (HL.out.below (by repeat (first | exact B0 _ | apply Bs | apply Bd | apply BdN | apply Ba | (simp; done) | (simp; omega))))).mono ?_
  rintro e w4 ⟨A4, c4, rfl, ho, hL, hm⟩
  rw [kk_11, kk_12, kk_13, kk_14]
  rw [kk_15] at hL
  replace HB := Lib.hid (Bm (Bt HB.out (by repeat (first | exact B0 _ | apply Bs | apply Bd | apply BdN | apply Ba | (simp; done) | (simp; omega)))) hm (fun i h => h.1))
  replace HL := Lib.hid hL
  clear ho hm hL
  go_wp2_with fail
  refine (frame_any 1 2 none 0 0 _).mono ?_
  rintro e w5 ⟨rfl, hb⟩
  replace HL := Lib.hid (HL.out.below (Bt (by repeat (first | exact B0 _ | apply Bs | apply Bd | apply BdN | apply Ba | (simp; done) | (simp; omega))) hb))
  replace HB := Lib.hid (Bt HB.out (Bt (by repeat (first | exact B0 _ | apply Bs | apply Bd | apply BdN | apply Ba | (simp; done) | (simp; omega))) hb))
  clear hb
  go_wp2_with fail
  refine (frame_any 1 2 none 0 0 _).mono ?_
  rintro e w6 ⟨rfl, hb⟩
  have HF := Lib.hid (((Blk.new w5 31 #[.int .i64 1, .int .i64 2, .slice (some ⟨w5.heap.size + 1, 0, none⟩) Z.length Z.length]).alloc (.cells (bts Z).toArray 5)).later hb)
  have HZ := Lib.hid ((Blk.new1 w5 (.cells #[.int .i64 1, .int .i64 2, .slice (some ⟨w5.heap.size + 1, 0, none⟩) Z.length Z.length] 31) 5 (bts Z).toArray).later hb)
  have HB6 := Lib.hid (show Below w5.heap.size w5 w6 from Bt (by repeat (first | exact B0 _ | apply Bs | apply Bd | apply BdN | apply Ba | (simp; done) | (simp; omega))) hb)
  have l6 := hb.size
  simp at l6
  clear hb
  go_wp2_with fail
  refine (frame_any 0 1 none 0 0 _).mono ?_
  rintro e w7 ⟨rfl, hb⟩
  replace HF := Lib.hid (HF.out.later (Bt (by repeat (first | exact B0 _ | apply Bs | apply Bd | apply BdN | apply Ba | (simp; done) | (simp; omega))) hb))
  replace HZ := Lib.hid (HZ.out.later (Bt (by repeat (first | exact B0 _ | apply Bs | apply Bd | apply BdN | apply Ba | (simp; done) | (simp; omega))) hb))
  have HG := Lib.hid (((Blk.new w6 31 #[.int .i64 1, .int .i64 2, .slice (some ⟨w6.heap.size + 1, 0, none⟩) Y.length Y.length]).alloc (.cells (bts Y).toArray 5)).later hb)
  have HY := Lib.hid ((Blk.new1 w6 (.cells #[.int .i64 1, .int .i64 2, .slice (some ⟨w6.heap.size + 1, 0, none⟩) Y.length Y.length] 31) 5 (bts Y).toArray).later hb)
  have HB7 := Lib.hid (show Below w5.heap.size w5 w7 from Bt HB6.out (Bt (by repeat (first | exact B0 _ | apply Bs | apply Bd | apply BdN | apply Ba | (simp; done) | (simp; omega))) hb))
  have l7 := hb.size
  simp at l7
  replace HL := Lib.hid (HL.out.keep (L := fun i => w5.heap.size ≤ i ∧ i < w7.heap.size) HB7.out (fun i hi => .inl hi))
  replace HB := Lib.hid (Bt HB.out HB7.out)
  have HK := Lib.hid (show ((w5.heap.size ≤ w5.heap.size ∧ w5.heap.size < w7.heap.size) ∧ (w5.heap.size ≤ w5.heap.size + 1 ∧ w5.heap.size + 1 < w7.heap.size)) ∧ ((w5.heap.size ≤ w6.heap.size ∧ w6.heap.size < w7.heap.size) ∧ (w5.heap.size ≤ w6.heap.size + 1 ∧ w6.heap.size + 1 < w7.heap.size)) by omega)
  clear hb HB6 HB7 l6 l7 hmkZ hmkY
  go_wp2_with fail
  refine (put_in 0 1 none 0 [] w7 HL.out (Rd.nil _ (fun _ => False) _) (fun j hj => hj.elim)).mono ?_
  rintro e w8 ⟨rfl, hL, hm⟩
  rw [kk_16]
  rw [kk_17] at hL
  replace HB := Lib.hid (Bm HB.out hm (fun i h => h.1))
  replace HL := Lib.hid hL
  replace HF := Lib.hid (HF.out.kept hm (fun h => h.2 HK.out.1.1))
  replace HZ := Lib.hid (HZ.out.kept hm (fun h => h.2 HK.out.1.2))
  replace HG := Lib.hid (HG.out.kept hm (fun h => h.2 HK.out.2.1))
  replace HY := Lib.hid (HY.out.kept hm (fun h => h.2 HK.out.2.2))
  clear hm hL
  go_wp2_with fail
  refine (frame_any 1 9 none 0 0 _).mono ?_
  rintro e w9 ⟨rfl, hb⟩
  replace HL := Lib.hid (HL.out.below hb)
  replace HB := Lib.hid (Bt HB.out hb)
  replace HF := Lib.hid (HF.out.later hb)
  replace HZ := Lib.hid (HZ.out.later hb)
  replace HG := Lib.hid (HG.out.later hb)
  replace HY := Lib.hid (HY.out.later hb)
  clear hb
  go_wp2_with fail
  refine (put_in 1 9 none 0 [] w9 HL.out (Rd.nil _ (fun _ => False) _) (fun j hj => hj.elim)).mono ?_
  rintro e w10 ⟨rfl, hL, hm⟩
  rw [kk_18]
  rw [kk_19] at hL
  replace HB := Lib.hid (Bm HB.out hm (fun i h => h.1))
  replace HL := Lib.hid hL
  replace HF := Lib.hid (HF.out.kept hm (fun h => h.2 HK.out.1.1))
  replace HZ := Lib.hid (HZ.out.kept hm (fun h => h.2 HK.out.1.2))
  replace HG := Lib.hid (HG.out.kept hm (fun h => h.2 HK.out.2.1))
  replace HY := Lib.hid (HY.out.kept hm (fun h => h.2 HK.out.2.2))
  clear hm hL
  go_wp2_with fail
  refine (frame_any 1 1 none 0 0 _).mono ?_
  rintro e w11 ⟨rfl, hb⟩
  replace HL := Lib.hid (HL.out.below hb)
  replace HB := Lib.hid (Bt HB.out hb)
  replace HF := Lib.hid (HF.out.later hb)
  replace HZ := Lib.hid (HZ.out.later hb)
  replace HG := Lib.hid (HG.out.later hb)
  replace HY := Lib.hid (HY.out.later hb)
  clear hb
  go_wp2_with fail
  refine (put_in 1 1 none 0 [] w11 HL.out (Rd.nil _ (fun _ => False) _) (fun j hj => hj.elim)).mono ?_
  rintro e w12 ⟨rfl, hL, hm⟩
  rw [kk_20]
  rw [kk_21] at hL
  replace HB := Lib.hid (Bm HB.out hm (fun i h => h.1))
  replace HL := Lib.hid hL
  replace HF := Lib.hid (HF.out.kept hm (fun h => h.2 HK.out.1.1))
  replace HZ := Lib.hid (HZ.out.kept hm (fun h => h.2 HK.out.1.2))
  replace HG := Lib.hid (HG.out.kept hm (fun h => h.2 HK.out.2.1))
  replace HY := Lib.hid (HY.out.kept hm (fun h => h.2 HK.out.2.2))
  clear hm hL
  obtain ⟨y0, y1, y2, g0, g1, g2⟩ := blk3 HF.out
  go_wp2_with fail
  refine (put_in 1 2 (some ⟨w5.heap.size + 1, 0, none⟩) Z.length Z w12 HL.out (rd_lit _ _ Z 5 HZ.out (by have := HZl.out; simp only [maxLen]; omega)) (fun j hj => hj ▸ HZ.out.lt)).mono ?_
  rintro e w13 ⟨rfl, hL, hm⟩
  rw [kq_put Z HZl.out]
  change RelIn _ _ _ _ (kq Z) at hL
  clear y0 y1 y2 g0 g1 g2
  replace HB := Lib.hid (Bm HB.out hm (fun i h => h.1))
  replace HL := Lib.hid hL
  replace HF := Lib.hid (HF.out.kept hm (fun h => h.2 HK.out.1.1))
  replace HZ := Lib.hid (HZ.out.kept hm (fun h => h.2 HK.out.1.2))
  replace HG := Lib.hid (HG.out.kept hm (fun h => h.2 HK.out.2.1))
  replace HY := Lib.hid (HY.out.kept hm (fun h => h.2 HK.out.2.2))
  clear hm hL
  obtain ⟨y0, y1, y2, g0, g1, g2⟩ := blk3 HG.out
  go_wp2_with fail
  refine (put_in 1 2 (some ⟨w6.heap.size + 1, 0, none⟩) Y.length Y w13 HL.out (rd_lit _ _ Y 5 HY.out (by have := HYl.out; simp only [maxLen]; omega)) (fun j hj => hj ▸ HY.out.lt)).mono ?_
  rintro e w14 ⟨rfl, hL, hm⟩
  rw [(kq_long Z Y HYl.out).1]
  rw [(kq_long Z Y HYl.out).2] at hL
  clear y0 y1 y2 g0 g1 g2
  replace HB := Lib.hid (Bm HB.out hm (fun i h => h.1))
  replace HL := Lib.hid hL
  replace HF := Lib.hid (HF.out.kept hm (fun h => h.2 HK.out.1.1))
  replace HZ := Lib.hid (HZ.out.kept hm (fun h => h.2 HK.out.1.2))
  replace HG := Lib.hid (HG.out.kept hm (fun h => h.2 HK.out.2.1))
  replace HY := Lib.hid (HY.out.kept hm (fun h => h.2 HK.out.2.2))
  clear hm hL
  go_wp2_with fail
  refine (len_in 2 _ HL.out).mono ?_
  rintro e w' ⟨rfl, rfl⟩
  rw [(kq_len Z HZl.out).1]
  go_wp2_with fail
  refine (len_in 0 _ HL.out).mono ?_
  rintro e w' ⟨rfl, rfl⟩
  rw [(kq_len Z HZl.out).2.1]
  go_wp2_with fail
  refine (len_in 9 _ HL.out).mono ?_
  rintro e w' ⟨rfl, rfl⟩
  rw [(kq_len Z HZl.out).2.2]
  obtain ⟨y0, y1, y2, g0, g1, g2⟩ := blk3 HF.out
  go_wp2_with fail
  refine (takes_in 2 1 2 (some ⟨w5.heap.size + 1, 0, none⟩) Z.length Z w14 HL.out (rd_lit _ _ Z 5 HZ.out (by have := HZl.out; simp only [maxLen]; omega)) (fun j hj => ⟨hj ▸ HZ.out.lt, .inr (hj ▸ HK.out.1.2)⟩)).mono ?_
  rintro e w15 ⟨rfl, hL, hm⟩
  rw [kq_takes Z HZl.out]
  clear y0 y1 y2 g0 g1 g2
  replace HB := Lib.hid (Bm HB.out hm (fun i h => h.1))
  replace HL := Lib.hid hL
  replace HF := Lib.hid (HF.out.kept hm (fun h => h.2 HK.out.1.1))
  replace HZ := Lib.hid (HZ.out.kept hm (fun h => h.2 HK.out.1.2))
  replace HG := Lib.hid (HG.out.kept hm (fun h => h.2 HK.out.2.1))
  replace HY := Lib.hid (HY.out.kept hm (fun h => h.2 HK.out.2.2))
  clear hm hL
  clear HL HK
  obtain ⟨y0, y1, y2, g0, g1, g2⟩ := blk3 HF.out
  go_wp2_with fail
  refine (pack_any (fun j => j = w5.heap.size + 1) 1 2 (some ⟨w5.heap.size + 1, 0, none⟩) Z.length Z w15 (rd_lit _ _ Z 5 HZ.out (by have := HZl.out; simp only [maxLen]; omega)) (fun j hj => hj ▸ HZ.out.lt)).mono ?_
  rintro e w16 ⟨A16, c16, rfl, hf⟩
  rw [← HXX.out.1] at hf ⊢
  rw [HXX.out.2.1]
  have HX := Lib.hid hf.rd
  clear y0 y1 y2 g0 g1 g2
  replace HB := Lib.hid (Bt HB.out (hf.kept))
  replace HF := Lib.hid (HF.out.later (hf.kept))
  replace HZ := Lib.hid (HZ.out.later (hf.kept))
  replace HG := Lib.hid (HG.out.later (hf.kept))
  replace HY := Lib.hid (HY.out.later (hf.kept))
  clear hf
  obtain ⟨y0, y1, y2, g0, g1, g2⟩ := blk3 HG.out
  go_wp2_with fail
  refine (pack_any (fun j => j = w6.heap.size + 1) 1 2 (some ⟨w6.heap.size + 1, 0, none⟩) Y.length Y w16 (rd_lit _ _ Y 5 HY.out (by have := HYl.out; simp only [maxLen]; omega)) (fun j hj => hj ▸ HY.out.lt)).mono ?_
  rintro e w17 ⟨A17, c17, rfl, hf⟩
  rw [HXX.out.2.2.2.1, HXX.out.2.2.1]
  replace HX := Lib.hid (HX.out.below hf.kept (fun i hi => hi))
  have l17 := hf.kept.size
  clear y0 y1 y2 g0 g1 g2
  replace HB := Lib.hid (Bt HB.out (hf.kept))
  replace HF := Lib.hid (HF.out.later (hf.kept))
  replace HZ := Lib.hid (HZ.out.later (hf.kept))
  clear hf HG HY
  go_wp2_with fail
  refine (frame_any 0 1 none 0 0 _).mono ?_
  rintro e w18 ⟨rfl, hb⟩
  replace HX := Lib.hid (HX.out.below hb (fun i hi => Nat.lt_of_lt_of_le hi l17))
  have l18 := Nat.le_trans l17 hb.size
  replace HB := Lib.hid (Bt HB.out (hb))
  replace HF := Lib.hid (HF.out.later (hb))
  replace HZ := Lib.hid (HZ.out.later (hb))
  clear hb l17
  go_wp2_with fail
  refine (pack_any (fun _ => False) 0 1 none 0 [] w18 (Rd.nil _ _ _) (fun j hj => hj.elim)).mono ?_
  rintro e w19 ⟨A19, c19, rfl, hf⟩
  rw [kk_22, kk_23]
  replace HX := Lib.hid (HX.out.below hf.kept (fun i hi => Nat.lt_of_lt_of_le hi l18))
  have l19 := Nat.le_trans l18 hf.kept.size
  replace HB := Lib.hid (Bt HB.out (hf.kept))
  replace HF := Lib.hid (HF.out.later (hf.kept))
  replace HZ := Lib.hid (HZ.out.later (hf.kept))
  clear hf l18
  go_wp2_with fail
  refine (un_any _ A16 c16 X w19 HX.out (fun i hi => Nat.lt_of_lt_of_le hi l19) HXX.out.2.2.2.2.2.2.2.2.1 HXX.out.2.2.2.2.2.2.2.2.2).mono ?_
  rintro e w20 ⟨A20, c20, rfl, hf⟩
  rw [HXX.out.2.2.2.2.1, HXX.out.2.2.2.2.2.1, HXX.out.2.2.2.2.2.2.1, HXX.out.2.2.2.2.2.2.2.1]
  rw [HXX.out.2.2.2.2.2.2.2.1] at hf
  have HR := Lib.hid hf.rd
  replace HB := Lib.hid (Bt HB.out (hf.kept))
  replace HF := Lib.hid (HF.out.later (hf.kept))
  replace HZ := Lib.hid (HZ.out.later (hf.kept))
  clear hf HX l19
  go_wp2_with fail
  refine (un_any (fun j => j = w20.heap.size + 1) _ _ [1, 2, 18, 1] _ (rd_lit _ _ [1, 2, 18, 1] 5 (Blk.new1 w20 _ 5 _) (by simp [maxLen])) (fun i hi => by subst hi; simp) (by intro x hx; simp at hx <;> omega) (by simp)).mono ?_
  rintro e w21 ⟨A21, c21, rfl, hf⟩
  rw [kk_24, kk_25, kk_26, kk_27]
  have HT := Lib.hid (((Blk.new w20 31 #[.int .i64 1, .int .i64 2, .slice A20 Z.length c20]).alloc (.cells (bts [1, 2, 18, 1]).toArray 5)).later hf.kept)
  replace HR := Lib.hid (HR.out.below (Bt (by repeat (first | exact B0 _ | apply Bs | apply Bd | apply BdN | apply Ba | (simp; done) | (simp; omega))) hf.kept) (fun i hi => hi))
  have l21 : w20.heap.size ≤ w21.heap.size := (show Below w20.heap.size w20 w21 from Bt (by repeat (first | exact B0 _ | apply Bs | apply Bd | apply BdN | apply Ba | (simp; done) | (simp; omega))) hf.kept).size
  replace HB := Lib.hid (Bt HB.out (Bt (by repeat (first | exact B0 _ | apply Bs | apply Bd | apply BdN | apply Ba | (simp; done) | (simp; omega))) hf.kept))
  replace HF := Lib.hid (HF.out.later (Bt (by repeat (first | exact B0 _ | apply Bs | apply Bd | apply BdN | apply Ba | (simp; done) | (simp; omega))) hf.kept))
  replace HZ := Lib.hid (HZ.out.later (Bt (by repeat (first | exact B0 _ | apply Bs | apply Bd | apply BdN | apply Ba | (simp; done) | (simp; omega))) hf.kept))
  clear hf
  go_wp2_with fail
  refine (un_any (fun j => j = w21.heap.size + 1) _ _ [1, 2, 0, 0, 9] _ (rd_lit _ _ [1, 2, 0, 0, 9] 5 (Blk.new1 w21 _ 5 _) (by simp [maxLen])) (fun i hi => by subst hi; simp) (by intro x hx; simp at hx <;> omega) (by simp)).mono ?_
  rintro e w22 ⟨A22, c22, rfl, hf⟩
  rw [kk_28, kk_29, kk_30, kk_31]
  replace HT := Lib.hid (HT.out.later (Bt (by repeat (first | exact B0 _ | apply Bs | apply Bd | apply BdN | apply Ba | (simp; done) | (simp; omega))) hf.kept))
  replace HR := Lib.hid (HR.out.below (Bt (by repeat (first | exact B0 _ | apply Bs | apply Bd | apply BdN | apply Ba | (simp; done) | (simp; omega))) hf.kept) (fun i hi => Nat.lt_of_lt_of_le hi l21))
  have l22 := Nat.le_trans l21 (show Below w21.heap.size w21 w22 from Bt (by repeat (first | exact B0 _ | apply Bs | apply Bd | apply BdN | apply Ba | (simp; done) | (simp; omega))) hf.kept).size
  clear l21
  replace HB := Lib.hid (Bt HB.out (Bt (by repeat (first | exact B0 _ | apply Bs | apply Bd | apply BdN | apply Ba | (simp; done) | (simp; omega))) hf.kept))
  replace HF := Lib.hid (HF.out.later (Bt (by repeat (first | exact B0 _ | apply Bs | apply Bd | apply BdN | apply Ba | (simp; done) | (simp; omega))) hf.kept))
  replace HZ := Lib.hid (HZ.out.later (Bt (by repeat (first | exact B0 _ | apply Bs | apply Bd | apply BdN | apply Ba | (simp; done) | (simp; omega))) hf.kept))
  clear hf
  go_wp2_with fail
  refine (un_any (fun j => j = w22.heap.size + 1) _ _ [1, 1, 0, 0] _ (rd_lit _ _ [1, 1, 0, 0] 5 (Blk.new1 w22 _ 5 _) (by simp [maxLen])) (fun i hi => by subst hi; simp) (by intro x hx; simp at hx <;> omega) (by simp)).mono ?_
  rintro e w23 ⟨A23, c23, rfl, hf⟩
  rw [kk_32, kk_33, kk_34, kk_35]
  replace HT := Lib.hid (HT.out.later (Bt (by repeat (first | exact B0 _ | apply Bs | apply Bd | apply BdN | apply Ba | (simp; done) | (simp; omega))) hf.kept))
  replace HR := Lib.hid (HR.out.below (Bt (by repeat (first | exact B0 _ | apply Bs | apply Bd | apply BdN | apply Ba | (simp; done) | (simp; omega))) hf.kept) (fun i hi => Nat.lt_of_lt_of_le hi l22))
  have l23 := Nat.le_trans l22 (show Below w22.heap.size w22 w23 from Bt (by repeat (first | exact B0 _ | apply Bs | apply Bd | apply BdN | apply Ba | (simp; done) | (simp; omega))) hf.kept).size
  clear l22
  replace HB := Lib.hid (Bt HB.out (Bt (by repeat (first | exact B0 _ | apply Bs | apply Bd | apply BdN | apply Ba | (simp; done) | (simp; omega))) hf.kept))
  replace HF := Lib.hid (HF.out.later (Bt (by repeat (first | exact B0 _ | apply Bs | apply Bd | apply BdN | apply Ba | (simp; done) | (simp; omega))) hf.kept))
  replace HZ := Lib.hid (HZ.out.later (Bt (by repeat (first | exact B0 _ | apply Bs | apply Bd | apply BdN | apply Ba | (simp; done) | (simp; omega))) hf.kept))
  clear hf
  go_wp2_with fail
  refine (un_any (fun j => j = w23.heap.size + 1) _ _ [1, 2, 0] _ (rd_lit _ _ [1, 2, 0] 5 (Blk.new1 w23 _ 5 _) (by simp [maxLen])) (fun i hi => by subst hi; simp) (by intro x hx; simp at hx <;> omega) (by simp)).mono ?_
  rintro e w24 ⟨A24, c24, rfl, hf⟩
  rw [kk_36, kk_37, kk_38, kk_39]
  replace HT := Lib.hid (HT.out.later (Bt (by repeat (first | exact B0 _ | apply Bs | apply Bd | apply BdN | apply Ba | (simp; done) | (simp; omega))) hf.kept))
  replace HR := Lib.hid (HR.out.below (Bt (by repeat (first | exact B0 _ | apply Bs | apply Bd | apply BdN | apply Ba | (simp; done) | (simp; omega))) hf.kept) (fun i hi => Nat.lt_of_lt_of_le hi l23))
  have l24 := Nat.le_trans l23 (show Below w23.heap.size w23 w24 from Bt (by repeat (first | exact B0 _ | apply Bs | apply Bd | apply BdN | apply Ba | (simp; done) | (simp; omega))) hf.kept).size
  clear l23
  replace HB := Lib.hid (Bt HB.out (Bt (by repeat (first | exact B0 _ | apply Bs | apply Bd | apply BdN | apply Ba | (simp; done) | (simp; omega))) hf.kept))
  replace HF := Lib.hid (HF.out.later (Bt (by repeat (first | exact B0 _ | apply Bs | apply Bd | apply BdN | apply Ba | (simp; done) | (simp; omega))) hf.kept))
  replace HZ := Lib.hid (HZ.out.later (Bt (by repeat (first | exact B0 _ | apply Bs | apply Bd | apply BdN | apply Ba | (simp; done) | (simp; omega))) hf.kept))
  clear hf
  go_wp2_with fail
  refine (un_any (fun j => j = w24.heap.size + 1) _ _ [9, 2, 0, 1, 5] _ (rd_lit _ _ [9, 2, 0, 1, 5] 5 (Blk.new1 w24 _ 5 _) (by simp [maxLen])) (fun i hi => by subst hi; simp) (by intro x hx; simp at hx <;> omega) (by simp)).mono ?_
  rintro e w25 ⟨A25, c25, rfl, hf⟩
  rw [kk_40, kk_41, kk_42, kk_43]
  replace HT := Lib.hid (HT.out.later (Bt (by repeat (first | exact B0 _ | apply Bs | apply Bd | apply BdN | apply Ba | (simp; done) | (simp; omega))) hf.kept))
  replace HR := Lib.hid (HR.out.below (Bt (by repeat (first | exact B0 _ | apply Bs | apply Bd | apply BdN | apply Ba | (simp; done) | (simp; omega))) hf.kept) (fun i hi => Nat.lt_of_lt_of_le hi l24))
  have l25 := Nat.le_trans l24 (show Below w24.heap.size w24 w25 from Bt (by repeat (first | exact B0 _ | apply Bs | apply Bd | apply BdN | apply Ba | (simp; done) | (simp; omega))) hf.kept).size
  clear l24
  replace HB := Lib.hid (Bt HB.out (Bt (by repeat (first | exact B0 _ | apply Bs | apply Bd | apply BdN | apply Ba | (simp; done) | (simp; omega))) hf.kept))
  replace HF := Lib.hid (HF.out.later (Bt (by repeat (first | exact B0 _ | apply Bs | apply Bd | apply BdN | apply Ba | (simp; done) | (simp; omega))) hf.kept))
  replace HZ := Lib.hid (HZ.out.later (Bt (by repeat (first | exact B0 _ | apply Bs | apply Bd | apply BdN | apply Ba | (simp; done) | (simp; omega))) hf.kept))
  clear hf
  go_wp2_with fail
  refine (un_any (fun _ => False) none 0 [] _ (Rd.nil _ _ _) (fun j hj => hj.elim) (by intro x hx; simp at hx) (by simp)).mono ?_
  rintro e w26 ⟨A26, c26, rfl, hf⟩
  rw [kk_44, kk_45, kk_46, kk_47]
  replace HT := Lib.hid (HT.out.later (Bt (by repeat (first | exact B0 _ | apply Bs | apply Bd | apply BdN | apply Ba | (simp; done) | (simp; omega))) hf.kept))
  replace HR := Lib.hid (HR.out.below (Bt (by repeat (first | exact B0 _ | apply Bs | apply Bd | apply BdN | apply Ba | (simp; done) | (simp; omega))) hf.kept) (fun i hi => Nat.lt_of_lt_of_le hi l25))
  have l26 := Nat.le_trans l25 (show Below w25.heap.size w25 w26 from Bt (by repeat (first | exact B0 _ | apply Bs | apply Bd | apply BdN | apply Ba | (simp; done) | (simp; omega))) hf.kept).size
  clear l25
  replace HB := Lib.hid (Bt HB.out (Bt (by repeat (first | exact B0 _ | apply Bs | apply Bd | apply BdN | apply Ba | (simp; done) | (simp; omega))) hf.kept))
  replace HF := Lib.hid (HF.out.later (Bt (by repeat (first | exact B0 _ | apply Bs | apply Bd | apply BdN | apply Ba | (simp; done) | (simp; omega))) hf.kept))
  replace HZ := Lib.hid (HZ.out.later (Bt (by repeat (first | exact B0 _ | apply Bs | apply Bd | apply BdN | apply Ba | (simp; done) | (simp; omega))) hf.kept))
  clear hf
  obtain ⟨y0, y1, y2, g0, g1, g2⟩ := blk3 HF.out
  obtain ⟨x0, x1, x2, f0, f1, f2⟩ := blk3 HT.out
  have ly := HF.out.lt
  have lx := HT.out.lt
  go_wp2_with fail
  refine (same_any (fun i => i < w20.heap.size) (fun j => j = w5.heap.size + 1) 1 2 1 2 A20 (some ⟨w5.heap.size + 1, 0, none⟩) c20 Z.length Z Z _ (HR.out.below (by repeat (first | exact B0 _ | apply Bs | apply Bd | apply BdN | apply Ba | (simp; done) | (simp; omega))) (fun i hi => Nat.lt_of_lt_of_le hi l26)) (fun i hi => Nat.lt_of_lt_of_le (Nat.lt_of_lt_of_le hi l26) (by simp)) ((rd_lit _ _ Z 5 HZ.out (by have := HZl.out; simp only [maxLen]; omega)).below (by repeat (first | exact B0 _ | apply Bs | apply Bd | apply BdN | apply Ba | (simp; done) | (simp; omega))) (fun j hj => hj ▸ HZ.out.lt)) (fun j hj => hj ▸ Nat.lt_of_lt_of_le HZ.out.lt (by simp))).mono ?_
  rintro e w27 ⟨rfl, hb⟩
  rw [same_self]
  replace HB := Lib.hid (Bt HB.out (Bt (by repeat (first | exact B0 _ | apply Bs | apply Bd | apply BdN | apply Ba | (simp; done) | (simp; omega))) hb))
  clear hb y0 y1 y2 g0 g1 g2 x0 x1 x2 f0 f1 f2 ly lx HF HT HZ HR HXX l26
  go_wp2_with fail
  refine (begin_low w27).mono ?_
  rintro e w' ⟨rfl, rfl⟩
  go_wp2_with fail
  refine (begin_high w27).mono ?_
  rintro e w' ⟨rfl, rfl⟩
  go_wp2_with fail
  refine (begin_any 3 (by omega) w27).mono ?_
  rintro e b0 ⟨rfl, hb, hp, hz⟩
  change PathsAt _ _ _ (List.replicate 4 (0, false)) at hp
  have HP := Lib.hid hp
  have HGE := Lib.hid (show W.heap.size ≤ w27.heap.size from HB.out.size)
  replace HB := Lib.hid (Bt HB.out hb)
  clear hb hp hz
  go_wp2_with fail
  refine (inf_any b0).mono ?_
  rintro e w' ⟨rfl, rfl⟩
  go_wp2_with fail
  refine (report_any _ w27.heap.size (List.replicate 4 (0, false) : Pth) 4 4607182418800017408 (by omega) (good_of kk_48) b0 HP.out).mono ?_
  rintro e b1 ⟨rfl, hm, hp⟩
  rw [kk_49]
  rw [kk_50] at hp
  replace HP := Lib.hid hp
  replace HB := Lib.hid (Bm HB.out hm (fun i h => h ▸ HGE.out))
  clear hm hp
  go_wp2_with fail
  refine (report_any _ w27.heap.size (List.replicate 4 (0, false) : Pth) (-1) 4607182418800017408 (by omega) (good_of kk_48) b1 HP.out).mono ?_
  rintro e b2 ⟨rfl, hm, hp⟩
  rw [kk_51]
  rw [kk_52] at hp
  replace HP := Lib.hid hp
  replace HB := Lib.hid (Bm HB.out hm (fun i h => h ▸ HGE.out))
  clear hm hp
  go_wp2_with fail
  refine (report_any _ w27.heap.size (List.replicate 4 (0, false) : Pth) 4 13830554455654793216 (by omega) (good_of kk_48) b2 HP.out).mono ?_
  rintro e b3 ⟨rfl, hm, hp⟩
  rw [kk_53]
  rw [kk_54] at hp
  replace HP := Lib.hid hp
  replace HB := Lib.hid (Bm HB.out hm (fun i h => h ▸ HGE.out))
  clear hm hp
  go_wp2_with fail
  refine (lost_any _ w27.heap.size (List.replicate 4 (0, false) : Pth) 4 b3 HP.out).mono ?_
  rintro e b4 ⟨rfl, hm, hp⟩
  rw [kk_55]
  rw [kk_56] at hp
  replace HP := Lib.hid hp
  replace HB := Lib.hid (Bm HB.out hm (fun i h => h ▸ HGE.out))
  clear hm hp
  go_wp2_with fail
  refine (report_any _ w27.heap.size (List.replicate 4 (0, false) : Pth) 3 13830554455654793216 (by omega) (good_of kk_48) b4 HP.out).mono ?_
  rintro e b5 ⟨rfl, hm, hp⟩
  rw [kk_57]
  rw [kk_58] at hp
  replace HP := Lib.hid hp
  replace HB := Lib.hid (Bm HB.out hm (fun i h => h ▸ HGE.out))
  clear hm hp
  go_wp2_with fail
  refine (report_any _ w27.heap.size (List.replicate 4 (0, false) : Pth) 3 9218868437227405312 (by omega) (good_of kk_48) b5 HP.out).mono ?_
  rintro e b6 ⟨rfl, hm, hp⟩
  rw [kk_59]
  rw [kk_60] at hp
  replace HP := Lib.hid hp
  replace HB := Lib.hid (Bm HB.out hm (fun i h => h ▸ HGE.out))
  clear hm hp
  have hneg : Op.unary UnOp.neg (Value.float FloatKind.f64 9218868437227405312) = (pure (Value.float FloatKind.f64 18442240474082181120) : Sem Value) := neg_inf
  go_wp2_with fail
  refine (report_any _ w27.heap.size (List.replicate 4 (0, false) : Pth) 3 18442240474082181120 (by omega) (good_of kk_48) b6 HP.out).mono ?_
  rintro e b7 ⟨rfl, hm, hp⟩
  rw [kk_61]
  rw [kk_62] at hp
  replace HP := Lib.hid hp
  replace HB := Lib.hid (Bm HB.out hm (fun i h => h ▸ HGE.out))
  clear hm hp
  clear hneg
  obtain ⟨nn, hn1, hn2, hsub⟩ := sub_inf b7
  have HN := Lib.hid hn2
  clear hn2
  go_wp2_with fail
  refine (report_any _ w27.heap.size (List.replicate 4 (0, false) : Pth) 3 nn hn1 (good_of kk_48) _ (HP.out.later (by repeat (first | exact B0 _ | apply Bs | apply Bd | apply BdN | apply Ba | (simp; done) | (simp; omega))))).mono ?_
  rintro e b8 ⟨rfl, hm, hp⟩
  rw [rep_nan nn HN.out]
  rw [repL_nan nn HN.out] at hp
  replace HP := Lib.hid hp
  replace HB := Lib.hid (Bm (Bt HB.out (by repeat (first | exact B0 _ | apply Bs | apply Bd | apply BdN | apply Ba | (simp; done) | (simp; omega)))) hm (fun i h => h ▸ HGE.out))
  clear hm hp hsub hn1 HN
  go_wp2_with fail
  refine (score_any _ w27.heap.size (List.replicate 4 (0, false) : Pth) 3 b8 HP.out).mono ?_
  rintro e w' ⟨rfl, rfl⟩
  rw [kk_64]
  have ho := kk_63
  go_wp2_with fail
  refine (score_any _ w27.heap.size (List.replicate 4 (0, false) : Pth) 4 b8 HP.out).mono ?_
  rintro e w' ⟨rfl, rfl⟩
  rw [kk_66]
  have ho := kk_65
  go_wp2_with fail
  refine (score_any _ w27.heap.size (List.replicate 4 (0, false) : Pth) (-1) b8 HP.out).mono ?_
  rintro e w' ⟨rfl, rfl⟩
  rw [kk_68]
  have ho := kk_67
  go_wp2_with fail
  refine (report_any _ w27.heap.size (List.replicate 4 (0, false) : Pth) 3 0 (by omega) (good_of kk_48) b8 HP.out).mono ?_
  rintro e b9 ⟨rfl, hm, hp⟩
  rw [kk_69]
  rw [kk_70] at hp
  replace HP := Lib.hid hp
  replace HB := Lib.hid (Bm HB.out hm (fun i h => h ▸ HGE.out))
  clear hm hp
  go_wp2_with fail
  refine (report_any _ w27.heap.size [(0, false), (0, false), (0, false), (0, true)] 0 9218868437227405311 (by omega) (good_of kk_71) b9 HP.out).mono ?_
  rintro e b10 ⟨rfl, hm, hp⟩
  rw [kk_72]
  rw [kk_73] at hp
  replace HP := Lib.hid hp
  replace HB := Lib.hid (Bm HB.out hm (fun i h => h ▸ HGE.out))
  clear hm hp
  go_wp2_with fail
  refine (report_any _ w27.heap.size [(9218868437227405311, true), (0, false), (0, false), (0, true)] 0 9218868437227405311 (by omega) (good_of kk_74) b10 HP.out).mono ?_
  rintro e b11 ⟨rfl, hm, hp⟩
  rw [kk_75]
  rw [kk_76] at hp
  replace HP := Lib.hid hp
  replace HB := Lib.hid (Bm HB.out hm (fun i h => h ▸ HGE.out))
  clear hm hp
  go_wp2_with fail
  refine (score_any _ w27.heap.size [(9218868437227405311, true), (0, false), (0, false), (0, true)] 0 b11 HP.out).mono ?_
  rintro e w' ⟨rfl, rfl⟩
  rw [kk_78]
  have ho := kk_77
  go_wp2_with fail
  refine (best_any _ w27.heap.size [(9218868437227405311, true), (0, false), (0, false), (0, true)] b11 HP.out).mono ?_
  rintro e b12 ⟨rfl, hb⟩
  rw [kk_79]
  replace HP := Lib.hid (HP.out.later hb)
  replace HB := Lib.hid (Bt HB.out hb)
  clear hb
  go_wp2_with fail
  refine (report_any _ w27.heap.size [(9218868437227405311, true), (0, false), (0, false), (0, true)] 1 4607182418800017408 (by omega) (good_of kk_74) b12 HP.out).mono ?_
  rintro e b13 ⟨rfl, hm, hp⟩
  rw [kk_80]
  rw [kk_81] at hp
  replace HP := Lib.hid hp
  replace HB := Lib.hid (Bm HB.out hm (fun i h => h ▸ HGE.out))
  clear hm hp
  go_wp2_with fail
  refine (best_any _ w27.heap.size [(9218868437227405311, true), (4607182418800017408, true), (0, false), (0, true)] b13 HP.out).mono ?_
  rintro e b14 ⟨rfl, hb⟩
  rw [kk_82]
  replace HP := Lib.hid (HP.out.later hb)
  replace HB := Lib.hid (Bt HB.out hb)
  clear hb
  go_wp2_with fail
  refine (report_any _ w27.heap.size [(9218868437227405311, true), (4607182418800017408, true), (0, false), (0, true)] 2 4607182418800017408 (by omega) (good_of kk_83) b14 HP.out).mono ?_
  rintro e b15 ⟨rfl, hm, hp⟩
  rw [kk_84]
  rw [kk_85] at hp
  replace HP := Lib.hid hp
  replace HB := Lib.hid (Bm HB.out hm (fun i h => h ▸ HGE.out))
  clear hm hp
  go_wp2_with fail
  refine (best_any _ w27.heap.size [(9218868437227405311, true), (4607182418800017408, true), (4607182418800017408, true), (0, true)] b15 HP.out).mono ?_
  rintro e b16 ⟨rfl, hb⟩
  rw [kk_86]
  replace HP := Lib.hid (HP.out.later hb)
  replace HB := Lib.hid (Bt HB.out hb)
  clear hb
  clear HP HGE
  go_wp2_with fail
  go_loopw [40, 41, 42] (fun nv gv i wr => ∃ k : Nat, k ≤ 2 ∧ i = .int .i64 k ∧ NilR wr nv ∧ NilQ wr gv ∧ Below W.heap.size W wr) (fun _ _ i _ => 2 - (intOf i).toNat)
  case atStart => exact ⟨0, by omega, rfl, .inl rfl, .inl rfl, HB.out⟩
  case round =>
    obtain ⟨k, hk, rfl, hn, hg, hb⟩ := hrel
    have HN := Lib.hid hn
    have HG := Lib.hid hg
    have HV := Lib.hid hb
    clear hn hg hb
    by_cases hlt : k < 2
    · have hlt2 : (k : Int) < 2 := by omega
      have ho := kk_87
      go_wp2_with fail
      refine (take_nil _ 1 wr HN.out).mono ?_
      rintro e v1 ⟨rfl, hb⟩
      replace HN := Lib.hid (HN.out.below hb)
      replace HG := Lib.hid (HG.out.below hb)
      replace HV := Lib.hid (Bt HV.out hb)
      clear hb
      go_wp2_with fail
      refine (frame_any 1 2 none 0 0 _).mono ?_
      rintro e v2 ⟨rfl, hb⟩
      replace HN := Lib.hid (HN.out.below (Bt (by repeat (first | exact B0 _ | apply Bs | apply Bd | apply BdN | apply Ba | (simp; done) | (simp; omega))) hb))
      replace HG := Lib.hid (HG.out.below (Bt (by repeat (first | exact B0 _ | apply Bs | apply Bd | apply BdN | apply Ba | (simp; done) | (simp; omega))) hb))
      replace HV := Lib.hid (Bt HV.out (Bt (by repeat (first | exact B0 _ | apply Bs | apply Bd | apply BdN | apply Ba | (simp; done) | (simp; omega))) hb))
      clear hb
      go_wp2_with fail
      refine (put_nil _ 1 2 none 0 0 v2 HN.out).mono ?_
      rintro e v3 ⟨rfl, hb⟩
      replace HN := Lib.hid (HN.out.below hb)
      replace HG := Lib.hid (HG.out.below hb)
      replace HV := Lib.hid (Bt HV.out hb)
      clear hb
      go_wp2_with fail
      refine (len_nil _ v3 HN.out).mono ?_
      rintro e w' ⟨rfl, rfl⟩
      go_wp2_with fail
      refine (report_nil _ 0 4607182418800017408 v3 HG.out).mono ?_
      rintro e w' ⟨rfl, rfl⟩
      go_wp2_with fail
      refine (lost_nil _ 0 v3 HG.out).mono ?_
      rintro e w' ⟨rfl, rfl⟩
      go_wp2_with fail
      refine (score_nil _ 0 v3 HG.out).mono ?_
      rintro e w' ⟨rfl, rfl⟩
      go_wp2_with fail
      refine (best_nil _ v3 HG.out).mono ?_
      rintro e v4 ⟨rfl, hb⟩
      replace HV := Lib.hid (Bt HV.out hb)
      clear hb HN HG
      go_wp2_with fail
      go_roundw
      case rel => exact ⟨k + 1, by omega, by go_num, .inr ⟨v4.heap.size, rfl, (Blk.new v4 _ _).alloc _⟩, .inr ⟨v4.heap.size + 1, rfl, Blk.new1 v4 _ _ _⟩, Ba (Ba HV.out _) _⟩
      case measure => simp [intOf]; omega
    · have hlt2 : ¬ (k : Int) < 2 := by omega
      go_wp2_with fail
      refine (works_any wr).mono ?_
      rintro e v1 ⟨rfl, hb⟩
      replace HV := Lib.hid (Bt HV.out hb)
      clear hb
      go_wp2_with fail
      go_ret
      exact ⟨rfl, HV.out⟩

theorem relayKnown_walk (W : World) : Calls Try.prog 13 #[] W fun e w' => e = .returned (.bool true) ∧ Below W.heap.size W w' := known_walk W
end Go.Proofs.Ytdnbbjhickjnmaa
