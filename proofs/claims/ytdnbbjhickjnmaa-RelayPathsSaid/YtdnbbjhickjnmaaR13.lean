/- The reference's paths: Begin, Report, Best. -/
import Derived.Test.YtdnbbjhickjnmaaR12
import Derived.Test.YtdnbbjhickjnmaaF3
namespace Go.Proofs.Ytdnbbjhickjnmaa
open Go.RowKit
set_option maxRecDepth 20000
set_option linter.unusedVariables false
set_option linter.unusedSimpArgs false

theorem info52 : (Try.prog.info? 52).map (fun i => (i.zero, i.size, i.bytes)) = some (some (.float .f64 0), 1, 8) := by kernel_rfl
theorem info4 : (Try.prog.info? 4).map (fun i => (i.zero, i.size, i.bytes)) = some (some (.bool false), 1, 1) := by kernel_rfl
theorem made_one (z : Value) (n : Nat) : madeCells #[z] n = (List.replicate n z).toArray := by
  have e : madeCells #[z] n = (Array.range n).map (fun _ => z) := by
    unfold madeCells
    congr 1
    funext x
    have : x % (#[z] : Array Value).size = 0 := Nat.mod_one x
    rw [this]
    rfl
  rw [e, ← Array.toList_inj]
  simp [List.map_const']
theorem make_f (n : Nat) (hn : n ≤ 4) (w : World) : (Instr.makeSlice 90 (.int .i64 n) (.int .i64 n)).run Try.prog w = .ok (.slice (some ⟨w.heap.size, 0, none⟩) n n) (w.alloc (.cells (fcell (List.replicate n (0, false))).toArray 52)) := by
  rw [run_make_row' (P := Try.prog) 90 52 (.float .f64 0) 8 Try.underlying90 info52 rfl .i64 .i64 n (by omega) (by omega), made_one]
  simp [fcell]
theorem make_b (n : Nat) (hn : n ≤ 4) (w : World) : (Instr.makeSlice 91 (.int .i64 n) (.int .i64 n)).run Try.prog w = .ok (.slice (some ⟨w.heap.size, 0, none⟩) n n) (w.alloc (.cells (bcell (List.replicate n (0, false))).toArray 4)) := by
  rw [run_make_row' (P := Try.prog) 91 4 (.bool false) 1 Try.underlying91 info4 rfl .i64 .i64 n (by omega) (by omega), made_one]
  simp [bcell]

theorem rbegin_any (n : Nat) (hn : n ≤ 3) (w : World) : Calls Try.prog 33 #[.int .i64 n] w fun e w' => ∃ p g h, e = .returned (.tuple #[.pointer (some ⟨p, 0, none⟩), .int .i64 0]) ∧ Below w.heap.size w w' ∧ RefAt w' p g h (List.replicate (n + 1) (0, false)) ∧ w.heap.size ≤ p ∧ w.heap.size ≤ g ∧ w.heap.size ≤ h := by
  have hf := make_f (n + 1) (by omega)
  have hb := make_b (n + 1) (by omega)
  have e1 : ((n : Int) + 1) = ((n + 1 : Nat) : Int) := by omega
  rw [← e1] at hf hb
  have e2 : (n : Int) + 1 ≤ 4 := by omega
  have e3 : IntKind.i64.wrap ((n : Int) + 1) = (n : Int) + 1 := by rw [IntKind.wrap_i64]; omega
  have e4 : ¬ (n : Int) < 0 := by omega
  have e5 : ¬ (3 : Int) < (n : Int) := by omega
  clear e1
  go_enter Try.func33, Try.ntmps33
  go_wp2
  go_region_law (fail)
  · go_wp2
    go_ret2
    exact ⟨_, w.heap.size, w.heap.size + 1, rfl, Bd (Ba (Ba (Ba (B0 w) _) _) _), ⟨by rw [List.length_replicate]; exact (Blk.new2 w _ _ 93 _).drew, (((Blk.new w 52 _).alloc _).alloc _).drew, ((Blk.new1 w _ 4 _).alloc _).drew, by simp, by simp; omega⟩, by omega, by omega, by omega⟩
  · go_wp2
    go_ret2
    exact ⟨_, w.heap.size + 1, w.heap.size, rfl, Bd (Ba (Ba (Ba (B0 w) _) _) _), ⟨by rw [List.length_replicate]; exact (Blk.new2 w _ _ 93 _).drew, ((Blk.new1 w _ 52 _).alloc _).drew, (((Blk.new w 4 _).alloc _).alloc _).drew, by simp, by simp; omega⟩, by omega, by omega, by omega⟩
theorem begin_err (n : Int) (hn : n < 0 ∨ 3 < n) (w : World) : Calls Try.prog 28 #[.int .i64 n] w fun e w' => e = .returned (.tuple #[.pointer none, .int .i64 2]) ∧ w = w' := by
  by_cases h0 : n < 0
  · clear hn
    go_enter Try.func28, Try.ntmps28
    go_wp2
    go_ret2
    exact ⟨rfl, rfl⟩
  · have h1 : 3 < n := by omega
    clear hn
    go_enter Try.func28, Try.ntmps28
    go_wp2
    go_ret2
    exact ⟨rfl, rfl⟩
theorem rbegin_err (n : Int) (hn : n < 0 ∨ 3 < n) (w : World) : Calls Try.prog 33 #[.int .i64 n] w fun e w' => e = .returned (.tuple #[.pointer none, .int .i64 2]) ∧ w = w' := by
  by_cases h0 : n < 0
  · clear hn
    go_enter Try.func33, Try.ntmps33
    go_wp2
    go_ret2
    exact ⟨rfl, rfl⟩
  · have h1 : 3 < n := by omega
    clear hn
    go_enter Try.func33, Try.ntmps33
    go_wp2
    go_ret2
    exact ⟨rfl, rfl⟩

theorem call_bits (b : Nat) (w : World) : (callFunc 71 #[.float .f64 b]).run Try.prog w = .ok (.value (.int .u64 b)) w :=
  run_callFunc_extern (e := Extern.MathFloatBits.float64bits) Try.func71 (by kernel_rfl) (by kernel_rfl) (by kernel_rfl) (by kernel_rfl) _ w
def absF (t : Nat) : Nat := (bits .andNot .u64 (t : Int) 9223372036854775808).toNat
theorem abs_any (t : Nat) (w : World) : Calls Try.prog 53 #[.float .f64 t] w fun e w' => e = .returned (.float .f64 (absF t)) ∧ w = w' := by
  have h70 := call_frombits
  have h71 := call_bits
  go_enter Try.func53, Try.ntmps53
  go_wp2
  go_ret
  exact ⟨rfl, rfl⟩
theorem isinf0_any (t : Nat) (w : World) : Calls Try.prog 38 #[.float .f64 t, .int .i64 0] w fun e w' => e = .returned (.bool (infB (absF t))) ∧ w = w' := by
  go_enter Try.func38, Try.ntmps38
  go_wp2_with (go_at_call 53; refine (abs_any _ _).mono ?_; rintro e w' ⟨rfl, rfl⟩)
  go_ret
  exact ⟨rfl, rfl⟩
theorem abs_mod (t : Nat) (h : t < 18446744073709551616) : absF t = t % 9223372036854775808 := by
  unfold absF
  have e : bits .andNot .u64 (t : Int) 9223372036854775808 = IntKind.u64.wrap (((BitVec.ofInt 64 (t : Int)) &&& ~~~(BitVec.ofInt 64 9223372036854775808)).toNat : Int) := rfl
  have e1 : (BitVec.ofInt 64 (t : Int)).toNat = t := by rw [BitVec.ofInt_natCast, BitVec.toNat_ofNat]; exact Nat.mod_eq_of_lt (by omega)
  have e2 : (~~~(BitVec.ofInt 64 9223372036854775808)).toNat = 2 ^ 63 - 1 := by decide +kernel
  rw [e, BitVec.toNat_and, e1, e2, Nat.and_two_pow_sub_one_eq_mod]
  have hx : t % 2 ^ 63 < 9223372036854775808 := Nat.mod_lt _ (by omega)
  have ew : IntKind.u64.wrap ((t % 2 ^ 63 : Nat) : Int) = ((t % 2 ^ 63 : Nat) : Int) := by rw [IntKind.wrap_u64]; omega
  rw [ew]
  exact Int.toNat_natCast _
theorem abs_good (t : Nat) (h : Good t) : absF t = key t := by
  unfold key
  rcases h with h | rfl
  · rw [abs_mod t (by omega), if_neg (by omega)]; omega
  · rw [abs_mod _ (by omega), if_pos rfl]
theorem tick_ref (t : Nat) (hw : t < 18446744073709551616) : tickB t = ((FloatKind.f64.format.order t 0 == some .gt || FloatKind.f64.format.order t 0 == some .eq) && !infB (absF t)) := by
  unfold tickB
  cases h0 : (FloatKind.f64.format.order t 0 == some .gt || FloatKind.f64.format.order t 0 == some .eq)
  · rfl
  · have hg := good_of_order t hw h0
    have hk : Good (key t) := by
      rcases hg with h | rfl
      · unfold key; rw [if_neg (by omega)]; exact .inl h
      · exact .inl (by decide)
    have hkk : key (key t) = key t := by
      rcases hg with h | rfl
      · unfold key; rw [if_neg (show ¬ t = 9223372036854775808 by omega), if_neg (by omega)]
      · decide
    have gm : Good 9218868437227405311 := .inl (by omega)
    rw [abs_good t hg, le_key hg gm, Bool.true_and, Bool.true_and]
    unfold infB
    rw [order_key _ _ hk gm, hkk]
    rcases Nat.lt_trichotomy (key t) (key 9218868437227405311) with c | c | c
    · rw [Nat.compare_eq_lt.2 c, decide_eq_true (by omega)]; rfl
    · rw [Nat.compare_eq_eq.2 c, decide_eq_true (by omega)]; rfl
    · rw [Nat.compare_eq_gt.2 c, decide_eq_false (by omega)]; rfl

set_option maxHeartbeats 1000000 in
theorem rbest_any (p g h : Nat) (l : Pth) (w : World) (k : RefAt w p g h l) : Calls Try.prog 37 #[.pointer (some ⟨p, 0, none⟩)] w fun e w' => e = .returned (.int .i64 (bestF l)) ∧ Below w.heap.size w w' := by
  have K := Lib.hid k
  have hl0 := k.2.2.2.1
  have hl4 := k.2.2.2.2
  obtain ⟨q0, q1, _, _⟩ := blk2 k.1
  clear k
  go_enter Try.func37, Try.ntmps37
  go_wp2
  go_loopw [3, 4] (fun b i wr => ∃ n : Nat, 1 ≤ n ∧ n ≤ l.length ∧ b = .int .i64 (bestAt l n) ∧ i = .int .i64 n ∧ Below w.heap.size w wr) (fun _ i _ => l.length - (intOf i).toNat)
  case atStart => exact ⟨1, Nat.le_refl _, hl0, by unfold bestAt; split <;> rfl, rfl, B0 w⟩
  case round =>
    obtain ⟨n, hn1, hn, rfl, rfl, hb⟩ := hrel
    have hbl := bestAt_lt l hl0 n hn
    have HP := Lib.hid (K.out.later hb)
    obtain ⟨p0, p1, _, _⟩ := blk2 HP.out.1
    by_cases hlt : n < l.length
    · obtain ⟨d0, _, _, _⟩ := HP.out.cells n hlt
      obtain ⟨b0, _, _, _⟩ := HP.out.cells (bestAt l n) hbl
      have i0 : (0 : Int) ≤ ((bestAt l n : Nat) : Int) := by omega
      have i1 : ((bestAt l n : Nat) : Int) < (l.length : Int) := by omega
      have i2 : (n : Int) < (l.length : Int) := by omega
      have i3 : (0 : Int) ≤ (n : Int) := by omega
      rw [← sc_at l n hlt] at d0
      rw [← sc_at l _ hbl] at b0
      obtain ⟨bn, hbn⟩ : ∃ bn, bn = bestAt l n := ⟨_, rfl⟩
      have hs : bestAt l (n + 1) = if ltB (sc l n) (sc l bn) then n else bn := by rw [hbn]; rfl
      rw [← hbn] at hbl b0 i0 i1 ⊢
      cases hc : ltB (sc l n) (sc l bn)
      · rw [hc] at hs
        have HS := Lib.hid hs
        have hc' : (FloatKind.f64.format.order (sc l n) (sc l bn) == some .lt) = false := hc
        clear hc hs hbn
        have HB := Lib.hid hb
        clear hb
        go_wp2
        go_quiet (fail)
        go_wp2
        go_roundw
        case rel => exact ⟨n + 1, by omega, by omega, by rw [HS.out]; rfl, by go_num, BdN HB.out _⟩
        case measure => simp [intOf]; omega
      · rw [hc] at hs
        have HS := Lib.hid hs
        have hc' : (FloatKind.f64.format.order (sc l n) (sc l bn) == some .lt) = true := hc
        clear hc hs hbn
        have HB := Lib.hid hb
        clear hb
        go_wp2
        go_quiet (fail)
        go_wp2
        go_roundw
        case rel => exact ⟨n + 1, by omega, by omega, by rw [HS.out]; rfl, by go_num, BdN HB.out _⟩
        case measure => simp [intOf]; omega
    · obtain rfl : n = l.length := by omega
      go_wp2
      go_ret
      exact ⟨rfl, hb⟩

set_option maxHeartbeats 1000000 in
theorem rreport_any (p g h : Nat) (l : Pth) (n : Int) (t : Nat) (ht : t < 18446744073709551616) (hG : GoodL l) (w : World) (k : RefAt w p g h l) : Calls Try.prog 35 #[.pointer (some ⟨p, 0, none⟩), .int .i64 n, .float .f64 t] w fun e w' => e = .returned (.int .i64 (repE l n t)) ∧ Mod (fun i => i = g ∨ i = h) w w' ∧ RefAt w' p g h (repL l n t) := by
  have K := Lib.hid k
  obtain ⟨q0, q1, z0, z1⟩ := blk2 k.1
  have hl0 := k.2.2.2.1
  have hl4 := k.2.2.2.2
  have htr := tick_ref t ht
  unfold repE repL
  cases hp : pin l n
  · simp only [Bool.false_eq_true, if_false, Bool.false_and]
    by_cases h0 : n < 0
    · clear hp k htr
      go_enter Try.func35, Try.ntmps35
      go_wp2
      go_ret
      exact ⟨rfl, Mod.refl _ _, K.out⟩
    · have h1 : ¬ n < (l.length : Int) := by intro h; simp [pin, h] at hp; omega
      clear hp k htr
      go_enter Try.func35, Try.ntmps35
      go_wp2
      go_ret
      exact ⟨rfl, Mod.refl _ _, K.out⟩
  · obtain ⟨i, rfl, hi⟩ := pin_nat hp
    obtain ⟨d0, d1, z2, z3⟩ := k.cells i hi
    obtain ⟨n1, n2, n3⟩ := k.ne
    have n1' := Ne.symm n1
    have n2' := Ne.symm n2
    have n3' := Ne.symm n3
    have i0 : (0 : Int) ≤ (i : Int) := by omega
    have i1 : (i : Int) < (l.length : Int) := by omega
    have hsf := store_float
    simp only [if_true, Int.toNat_natCast, Bool.true_and]
    cases htk : tickB t
    · rw [htk] at htr
      simp only [Bool.false_eq_true, if_false]
      clear hp k
      cases h2 : (FloatKind.f64.format.order t 0 == some .gt || FloatKind.f64.format.order t 0 == some .eq)
      · clear htr
        go_enter Try.func35, Try.ntmps35
        go_wp2
        go_ret
        exact ⟨rfl, Mod.refl _ _, K.out⟩
      · rw [h2, Bool.true_and] at htr
        have hi0 : infB (absF t) = true := by simpa using htr.symm
        have HI := Lib.hid hi0
        clear htr hi0
        go_enter Try.func35, Try.ntmps35
        go_wp2_with (go_at_call 38; refine (isinf0_any _ _).mono ?_; rintro e w' ⟨rfl, rfl⟩; rw [HI.out])
        go_ret
        exact ⟨rfl, Mod.refl _ _, K.out⟩
    · rw [htk] at htr
      have hgt := tick_good t ht htk
      have htr' := htr.symm
      rw [Bool.and_eq_true] at htr'
      obtain ⟨h2, h3⟩ := htr'
      have hi0 : infB (absF t) = false := by simpa using h3
      have HI := Lib.hid hi0
      simp only [if_true]
      have hs := hG l[i] (List.getElem_mem hi)
      have f1 : ∀ W, (binOp .mul 52 (.float .f64 4604930618986332160) (.float .f64 l[i].1)).run Try.prog W = .ok (.float .f64 (mulF 4604930618986332160 l[i].1)) W := fun W => run_float_arith W _ _ _ _ _ _ (mul75 _ hs).1
      have f2 : ∀ W, (binOp .mul 52 (.float .f64 4598175219545276416) (.float .f64 t)).run Try.prog W = .ok (.float .f64 (mulF 4598175219545276416 t)) W := fun W => run_float_arith W _ _ _ _ _ _ (mul25 _ hgt).1
      have f3 : ∀ W, (binOp .add 52 (.float .f64 (mulF 4604930618986332160 l[i].1)) (.float .f64 (mulF 4598175219545276416 t))).run Try.prog W = .ok (.float .f64 (mixF l[i].1 t)) W := fun W => run_float_arith W _ _ _ _ _ _ (add_good _ _ (mul75 _ hs).2 (mul25 _ hgt).2).1
      have eg : l.getD i (0, false) = l[i] := by simp [List.getD_eq_getElem?_getD, hi]
      unfold repV
      rw [eg]
      clear hgt hs hG htr hi0 h3 hp k htk eg
      cases hb : l[i].2
      · rw [hb] at d1
        simp only [Bool.false_eq_true, if_false]
        go_enter Try.func35, Try.ntmps35
        go_wp2_with (go_at_call 38; refine (isinf0_any _ _).mono ?_; rintro e w' ⟨rfl, rfl⟩; rw [HI.out])
        go_ret
        exact ⟨rfl, ((Mod.refl (fun i => i = g ∨ i = h) w).setCell (.inl (.inr rfl)) _).setCell (.inl (.inl rfl)) _, K.out.put i _ _⟩
      · rw [hb] at d1
        simp only [if_true]
        go_enter Try.func35, Try.ntmps35
        go_wp2_with (go_at_call 38; refine (isinf0_any _ _).mono ?_; rintro e w' ⟨rfl, rfl⟩; rw [HI.out])
        go_ret
        exact ⟨rfl, (Mod.refl (fun i => i = g ∨ i = h) w).setCell (.inl (.inl rfl)) _, K.out.put1 i hi _ _ hb⟩
end Go.Proofs.Ytdnbbjhickjnmaa
