/- Keys: compared, looked for in a list. -/
import Derived.Test.YtgmndppjdnpejaaB3
import Derived.Deep.RegionHeld3
namespace Go.Proofs.Ytgmndppjdnpejaa
open Go.RowKit
set_option maxRecDepth 20000
set_option linter.unusedVariables false
set_option linter.unusedSimpArgs false

theorem sz1 (w : World) : (sizeOf 5).run Try.prog w = .ok 1 w := by kernel_rfl
theorem run_equalIn_intsD {P : Program} (w : World) (d : Nat) (t e : TypeId) (n : Nat) (k : IntKind) (ht : P.underlying t = some (.array n e)) (he : P.underlying e = some (.int k)) (hsz : ∀ w, (sizeOf e).run P w = .ok 1 w)
    (xs ys : List Int) (hx : xs.length = n) (hy : ys.length = n) :
    (Op.equalIn (d + 2) t (.agg (xs.map (Value.int k)).toArray) (.agg (ys.map (Value.int k)).toArray)).run P w = .ok (xs == ys) w := by
  have all_range : ∀ (xs ys : List Int), xs.length = ys.length → ((List.range xs.length).all fun i => xs.getD i 0 == ys.getD i 0) = (xs == ys) := by
    intro xs
    induction xs with
    | nil => intro ys h; cases ys <;> simp at h ⊢
    | cons x xs ih =>
      intro ys h
      cases ys with
      | nil => simp at h
      | cons y ys =>
        have ih := ih ys (by simpa using h)
        rw [List.length_cons, List.range_succ_eq_map, List.all_cons, List.all_map]
        simp only [List.getD_cons_zero, Function.comp_def, List.getD_cons_succ, ih]
        simp [List.cons_beq_cons]
  have key : (Op.equalIn (d + 2) t (.agg (xs.map (Value.int k)).toArray) (.agg (ys.map (Value.int k)).toArray)).run P w = .ok (xs == ys) w := by
    rw [← all_range xs ys (hx.trans hy.symm), hx, List.range_eq_range', Op.equalIn]
    simp only [Sem.run_bind, run_underlying ht, Result.andThen_ok, hsz, Std.Legacy.Range.forIn_eq_forIn_range', Std.Legacy.Range.size, Nat.sub_zero, Nat.add_sub_cancel, Nat.div_one]
    have hl : ∀ i ∈ List.range' 0 n 1, i < n := fun i hi => by simpa using (List.mem_range'_1.1 hi).2
    generalize List.range' 0 n 1 = l at hl ⊢
    induction l with
    | nil => simp
    | cons i l ih =>
      have hi : i < n := hl i (by simp)
      have px : (part e (xs.map (Value.int k)).toArray (i * 1)).run P w = .ok (.int k (xs.getD i 0)) w := by
        simp [part, isAgg, run_underlying he, List.getD, List.getElem?_eq_getElem (show i < xs.length by omega)]
      have py : (part e (ys.map (Value.int k)).toArray (i * 1)).run P w = .ok (.int k (ys.getD i 0)) w := by
        simp [part, isAgg, run_underlying he, List.getD, List.getElem?_eq_getElem (show i < ys.length by omega)]
      have pe : (Op.equalIn (d + 1) e (.int k (xs.getD i 0)) (.int k (ys.getD i 0))).run P w = .ok (xs.getD i 0 == ys.getD i 0) w := run_equalIn_int w d e k k _ _ he
      simp only [List.forIn_cons, Sem.run_bind, px, py, pe, Result.andThen_ok, List.all_cons]
      cases hb : (xs.getD i 0 == ys.getD i 0)
      · simp
      · simp only [Bool.not_true, Bool.false_eq_true, if_false, Sem.run_pure, Result.andThen_ok, Bool.true_and]
        exact ih fun j hj => hl j (by simp [hj])
  exact key
theorem run_equalIn_key (w : World) (d : Nat) (xs ys : List Int) (hx : xs.length = 32) (hy : ys.length = 32) : (Op.equalIn (d + 2) 31 (.agg (xs.map (Value.int .u8)).toArray) (.agg (ys.map (Value.int .u8)).toArray)).run Try.prog w = .ok (xs == ys) w :=
  run_equalIn_intsD w d 31 5 32 .u8 Try.underlying31 Try.underlying5 sz1 xs ys hx hy
theorem eq_key {xs ys : List Int} (hx : xs.length = 32) (hy : ys.length = 32) (w : World) : (Op.equalIn 10000 31 (.agg (bts xs).toArray) (.agg (bts ys).toArray)).run Try.prog w = .ok (xs == ys) w := run_equalIn_key w 9998 xs ys hx hy
theorem guard_key : Try.prog.eqGuardType Try.prog.depth 31 = false := by kernel_rfl
theorem exec_load {t : TypeId} {n : Nat} (B : BigT t n) {r : Operand → Value} {op : Oper} {w : World} (x : Operand) (ho : op.op = .load t x) (g o : Nat) (hx : r x = .pointer (some ⟨g, o, none⟩)) (L : List Value) (hL : L.length = n) (hr : w.rangeAt g o L) : (execOp r op).run Try.prog w = .ok (.value (.agg L.toArray)) w := by
  obtain ⟨d, hu, hd⟩ := B.row
  have h : (loadVar t ⟨g, o, none⟩).run Try.prog w = .ok (.agg L.toArray) w := Go.run_loadVar_mid w g o t L d hr hu hd (by rw [B.sz, hL])
  unfold execOp
  simp only [ho, hx, Instr.loadAt, Instr.sureAddr, Sem.run_bind, Sem.run_pure, Result.andThen_ok, h]
theorem exec_eqK {r : Operand → Value} {op : Oper} {w : World} (x y : Operand) (ho : op.op = .binOp .eql 31 x y 31) (xs ys : List Int) (hx : r x = .agg (bts xs).toArray) (hy : r y = .agg (bts ys).toArray) (hxl : xs.length = 32) (hyl : ys.length = 32) (b : Bool) (hb : (xs == ys) = b) : (execOp r op).run Try.prog w = .ok (.value (.bool b)) w := by
  unfold execOp
  simp only [ho, hx, hy, Sem.run_bind, run_eqGuard_agg w .eql 31 x y _ _ guard_key, run_eql_struct, eq_key hxl hyl, hb, Result.andThen_ok, Sem.run_pure]
theorem step_eqK {ops : Array Oper} {rest : List Oper} {op : Oper} {a : Act} {w : World} {Q : Exit → Act → World → Prop} (hw : Region.wanted op (yielded ops a.tmps) = true) (bo : BinOp) (hbo : bo = .eql ∨ bo = .neq) (x y : Operand) (ho : op.op = .binOp bo 31 x y 31)
    (xs ys : List Int) (hx : a.eval x = .agg (bts xs).toArray) (hy : a.eval y = .agg (bts ys).toArray) (hxl : xs.length = 32) (hyl : ys.length = 32) (r : Bool) (hr : (if bo = .eql then xs == ys else !(xs == ys)) = r)
    (h : wpList Try.prog ops Q rest (a.put op.dst (.bool r)) w) : wpList Try.prog ops Q (op :: rest) a w :=
  BigFrame.wpList_want hw fun K hK => by
    unfold Oper.wp execOp
    rcases hbo with rfl | rfl
    · simp only [ho, hx, hy, Sem.run_bind, run_eqGuard_agg w .eql 31 x y _ _ guard_key, run_eql_struct, eq_key hxl hyl, Result.andThen_ok, Sem.run_pure]
      rw [if_pos rfl] at hr
      rw [hr]
      exact hK _ _ h
    · simp only [ho, hx, hy, Sem.run_bind, run_eqGuard_agg w .neq 31 x y _ _ guard_key, run_neq_struct, eq_key hxl hyl, Result.andThen_ok, Sem.run_pure]
      rw [if_neg (by decide)] at hr
      rw [hr]
      exact hK _ _ h
theorem flat_at {α : Type} {f : α → List Value} {n : Nat} : ∀ {l : List α}, (∀ x ∈ l, (f x).length = n) → ∀ (k : Nat) (hk : k < l.length) (j : Nat), j < n → (l.flatMap f)[k * n + j]? = (f l[k])[j]?
  | [], _, k, hk, _, _ => absurd hk (by simp)
  | x :: l, h, 0, _, j, hj => by
    rw [List.flatMap_cons, Nat.zero_mul, Nat.zero_add, List.getElem?_append_left (by rw [h x (by simp)]; exact hj)]
    rfl
  | x :: l, h, k + 1, hk, j, hj => by
    have hx := h x (by simp)
    rw [List.flatMap_cons, List.getElem?_append_right (by rw [hx, Nat.succ_mul]; omega), hx, show (k + 1) * n + j - n = k * n + j by rw [Nat.succ_mul]; omega, List.getElem_cons_succ]
    exact flat_at (fun y hy => h y (by simp [hy])) k (by simpa using hk) j hj
/-- The cells of one of a list. -/
theorem row_at {α : Type} {f : α → List Value} {n : Nat} {w : World} {S : Nat → Prop} {A : Option Addr} {c : Nat} {l : List α} (h : Rd w S n (.slice A l.length c) l.length (l.flatMap f)) (hn : ∀ x ∈ l, (f x).length = n) {k : Nat} (hk : k < l.length) :
    ∃ g o, A = some ⟨g, o, none⟩ ∧ S g ∧ w.rangeAt g (o + k * n) (f l[k]) := by
  obtain ⟨g, o, hA, hg, hc⟩ := h.some_ (by omega)
  refine ⟨g, o, hA, hg, fun j u hu => ?_⟩
  have hj : j < n := by
    rw [← hn _ (List.getElem_mem hk)]
    rcases Nat.lt_or_ge j (f l[k]).length with h | h
    · exact h
    · rw [List.getElem?_eq_none h] at hu; cases hu
  rw [Nat.add_assoc]
  exact hc _ _ ((flat_at hn k hk j hj).trans hu)
theorem range_below {w w' : World} {g o : Nat} {cs : List Value} {B : Nat} (h : w.rangeAt g o cs) (hb : Below B w w') (hg : g < B) : w'.rangeAt g o cs := fun j u hu => (hb.cell (p := ⟨g, o + j, none⟩) hg).trans (h j u hu)
theorem range_mod {w w' : World} {S : Nat → Prop} {g o : Nat} {cs : List Value} (h : w.rangeAt g o cs) (hm : Mod S w w') (hg : ¬ S g) : w'.rangeAt g o cs := fun j u hu => hm.cell (h j u hu) hg
def rowK (l : List (List Int)) : List Value := l.flatMap bts
theorem rowK_n {l : List (List Int)} (h : ∀ k ∈ l, k.length = 32) : ∀ k ∈ l, (bts k).length = 32 := fun k hk => by rw [bts_length]; exact h k hk

set_option maxHeartbeats 2000000 in
theorem index_any (S : Nat → Prop) (A : Option Addr) (c : Nat) (l : List (List Int)) (ks : List Int) (w : World) (hr : Rd w S 32 (.slice A l.length c) l.length (rowK l)) (hS : ∀ i, S i → i < w.heap.size) (hl : ∀ k ∈ l, k.length = 32) (hk : ks.length = 32) :
    Calls Try.prog 63 #[.slice A l.length c, .agg (bts ks).toArray] w fun e w' => (∃ r : Int, e = .returned (.int .i64 r) ∧ decide (0 ≤ r) = l.contains ks) ∧ Below w.heap.size w w' := by
  have hcap := hr.cap.2
  have hc1 := hcap.1
  have hc2 := hcap.2
  unfold maxLen at hc2
  have HR := Lib.hid hr
  have HS := Lib.hid hS
  have HL := Lib.hid hl
  have HK := Lib.hid hk
  have HG := Lib.hid (Blk.new w 31 (bts ks).toArray)
  clear hr hS hcap hl hk
  go_enter Try.func63, Try.ntmps63
  go_wp2_with fail
  go_loopw [8] (fun i wr => ∃ k : Nat, k ≤ l.length ∧ i = .int .i64 k ∧ (∀ j (hj : j < l.length), j < k → l[j] ≠ ks) ∧ Below w.heap.size w wr ∧ Blk wr w.heap.size 31 (bts ks).toArray) (fun i _ => l.length - (intOf i).toNat)
  case atStart => exact ⟨0, Nat.zero_le _, rfl, fun j _ hj => absurd hj (Nat.not_lt_zero _), Ba (B0 _) _, HG.out⟩
  case round =>
    obtain ⟨k, hk, rfl, hne, hb, hg⟩ := hrel
    obtain ⟨wv, rfl⟩ : ∃ wv, wv = wr := ⟨_, rfl⟩
    have HB := Lib.hid hb
    have HNE := Lib.hid hne
    have HGV := Lib.hid hg
    by_cases hlt : k < l.length
    · have hlt' : (k : Int) < (l.length : Int) := by omega
      have hk0 : (0 : Int) ≤ (k : Int) := by omega
      obtain ⟨g, o, hA, hgS, hra⟩ := row_at (HR.out.below hb HS.out) (rowK_n HL.out) hlt
      subst hA
      obtain ⟨x, hx⟩ : ∃ x, x = l[k] := ⟨_, rfl⟩
      rw [← hx] at hra
      have HX := Lib.hid hx
      have HXL := Lib.hid (show x.length = 32 by rw [hx]; exact HL.out _ (List.getElem_mem hlt))
      have hS0 : wv.rangeAt w.heap.size 0 (bts ks) ∧ wv.rangeAt g (o + k * 32) (bts x) := ⟨blk_range hg, hra⟩
      have HLK := Lib.hid (show (bts ks).length = 32 by rw [bts_length]; exact HK.out)
      have HLX := Lib.hid (show (bts x).length = 32 by rw [bts_length]; exact HXL.out)
      clear hb hne hg hx hra
      cases hbb : (ks == x)
      · have HBB := Lib.hid hbb
        clear hbb
        go_wp2_with fail
        refine wp_region_held_drew (S := fun w' => w'.rangeAt w.heap.size 0 (bts ks) ∧ w'.rangeAt g (o + k * 32) (bts x)) (by kernel_rfl) (hS0) (fun hHeld => ?_)
        refine wpAnyH_take (i := 0) (v := ?_) rfl (by kernel_rfl) (by kernel_rfl) (by kernel_rfl) (fun _ _ _ h => h) (Or.inl ⟨by kernel_rfl, ?_⟩) (by assumption) ?_
        rotate_left 1
        · (intro w hSw; refine exec_load big_key (.tmp 3) ?_ _ 0 ?_ (bts ks) HLK.out hSw.1 <;> rfl)
        try simp only [Act.put, List.getElem_toArray, List.getElem_cons_succ, List.getElem_cons_zero, List.setIfInBounds_toArray, List.set_cons_zero, List.set_cons_succ]
        refine wpAnyH_take (i := 1) (v := ?_) rfl (by kernel_rfl) (by kernel_rfl) (by kernel_rfl) (fun _ _ _ h => h) (Or.inl ⟨by kernel_rfl, ?_⟩) (by assumption) ?_
        rotate_left 1
        · (intro w hSw; (try dsimp only at hSw); go_simp; try with_reducible rfl)
        try simp only [Act.put, List.getElem_toArray, List.getElem_cons_succ, List.getElem_cons_zero, List.setIfInBounds_toArray, List.set_cons_zero, List.set_cons_succ]
        refine wpAnyH_take (i := 2) (v := ?_) rfl (by kernel_rfl) (by kernel_rfl) (by kernel_rfl) (fun _ _ _ h => h) (Or.inl ⟨by kernel_rfl, ?_⟩) (by assumption) ?_
        rotate_left 1
        · (intro w hSw; (try dsimp only at hSw); go_simp; try with_reducible rfl)
        try simp only [Act.put, List.getElem_toArray, List.getElem_cons_succ, List.getElem_cons_zero, List.setIfInBounds_toArray, List.set_cons_zero, List.set_cons_succ]
        refine wpAnyH_take (i := 3) (v := ?_) rfl (by kernel_rfl) (by kernel_rfl) (by kernel_rfl) (fun _ _ _ h => h) (Or.inl ⟨by kernel_rfl, ?_⟩) (by assumption) ?_
        rotate_left 1
        · (intro w hSw; (try dsimp only at hSw); go_simp; try with_reducible rfl)
        try simp only [Act.put, List.getElem_toArray, List.getElem_cons_succ, List.getElem_cons_zero, List.setIfInBounds_toArray, List.set_cons_zero, List.set_cons_succ]
        refine wpAnyH_take (i := 4) (v := ?_) rfl (by kernel_rfl) (by kernel_rfl) (by kernel_rfl) (fun _ _ _ h => h) (Or.inl ⟨by kernel_rfl, ?_⟩) (by assumption) ?_
        rotate_left 1
        · (intro w hSw; refine exec_load big_key (.tmp 14) ?_ g (o + k * 32) ?_ (bts x) HLX.out hSw.2 <;> rfl)
        try simp only [Act.put, List.getElem_toArray, List.getElem_cons_succ, List.getElem_cons_zero, List.setIfInBounds_toArray, List.set_cons_zero, List.set_cons_succ]
        refine wpAnyH_take (i := 5) (v := ?_) rfl (by kernel_rfl) (by kernel_rfl) (by kernel_rfl) (fun _ _ _ h => h) (Or.inl ⟨by kernel_rfl, ?_⟩) (by assumption) ?_
        rotate_left 1
        · (intro w hSw; refine exec_eqK (.tmp 11) (.tmp 15) ?_ ks x ?_ ?_ HK.out HXL.out _ HBB.out <;> rfl)
        try simp only [Act.put, List.getElem_toArray, List.getElem_cons_succ, List.getElem_cons_zero, List.setIfInBounds_toArray, List.set_cons_zero, List.set_cons_succ]
        refine wpAnyH_done (by kernel_rfl) ?_ _
        go_wp2_with fail
        go_roundw
        case rel =>
          refine ⟨k + 1, by omega, by go_num, fun j hj hjk => ?_, Bd HB.out, HGV.out⟩
          by_cases e : j = k
          · subst e
            rw [← HX.out]
            intro h
            have := HBB.out
            rw [h] at this
            simp at this
          · exact HNE.out j hj (by omega)
        case measure => simp [intOf]; omega
      · have HBB := Lib.hid hbb
        clear hbb
        go_wp2_with fail
        refine wp_region_held_drew (S := fun w' => w'.rangeAt w.heap.size 0 (bts ks) ∧ w'.rangeAt g (o + k * 32) (bts x)) (by kernel_rfl) (hS0) (fun hHeld => ?_)
        refine wpAnyH_take (i := 0) (v := ?_) rfl (by kernel_rfl) (by kernel_rfl) (by kernel_rfl) (fun _ _ _ h => h) (Or.inl ⟨by kernel_rfl, ?_⟩) (by assumption) ?_
        rotate_left 1
        · (intro w hSw; refine exec_load big_key (.tmp 3) ?_ _ 0 ?_ (bts ks) HLK.out hSw.1 <;> rfl)
        try simp only [Act.put, List.getElem_toArray, List.getElem_cons_succ, List.getElem_cons_zero, List.setIfInBounds_toArray, List.set_cons_zero, List.set_cons_succ]
        refine wpAnyH_take (i := 1) (v := ?_) rfl (by kernel_rfl) (by kernel_rfl) (by kernel_rfl) (fun _ _ _ h => h) (Or.inl ⟨by kernel_rfl, ?_⟩) (by assumption) ?_
        rotate_left 1
        · (intro w hSw; (try dsimp only at hSw); go_simp; try with_reducible rfl)
        try simp only [Act.put, List.getElem_toArray, List.getElem_cons_succ, List.getElem_cons_zero, List.setIfInBounds_toArray, List.set_cons_zero, List.set_cons_succ]
        refine wpAnyH_take (i := 2) (v := ?_) rfl (by kernel_rfl) (by kernel_rfl) (by kernel_rfl) (fun _ _ _ h => h) (Or.inl ⟨by kernel_rfl, ?_⟩) (by assumption) ?_
        rotate_left 1
        · (intro w hSw; (try dsimp only at hSw); go_simp; try with_reducible rfl)
        try simp only [Act.put, List.getElem_toArray, List.getElem_cons_succ, List.getElem_cons_zero, List.setIfInBounds_toArray, List.set_cons_zero, List.set_cons_succ]
        refine wpAnyH_take (i := 3) (v := ?_) rfl (by kernel_rfl) (by kernel_rfl) (by kernel_rfl) (fun _ _ _ h => h) (Or.inl ⟨by kernel_rfl, ?_⟩) (by assumption) ?_
        rotate_left 1
        · (intro w hSw; (try dsimp only at hSw); go_simp; try with_reducible rfl)
        try simp only [Act.put, List.getElem_toArray, List.getElem_cons_succ, List.getElem_cons_zero, List.setIfInBounds_toArray, List.set_cons_zero, List.set_cons_succ]
        refine wpAnyH_take (i := 4) (v := ?_) rfl (by kernel_rfl) (by kernel_rfl) (by kernel_rfl) (fun _ _ _ h => h) (Or.inl ⟨by kernel_rfl, ?_⟩) (by assumption) ?_
        rotate_left 1
        · (intro w hSw; refine exec_load big_key (.tmp 14) ?_ g (o + k * 32) ?_ (bts x) HLX.out hSw.2 <;> rfl)
        try simp only [Act.put, List.getElem_toArray, List.getElem_cons_succ, List.getElem_cons_zero, List.setIfInBounds_toArray, List.set_cons_zero, List.set_cons_succ]
        refine wpAnyH_take (i := 5) (v := ?_) rfl (by kernel_rfl) (by kernel_rfl) (by kernel_rfl) (fun _ _ _ h => h) (Or.inl ⟨by kernel_rfl, ?_⟩) (by assumption) ?_
        rotate_left 1
        · (intro w hSw; refine exec_eqK (.tmp 11) (.tmp 15) ?_ ks x ?_ ?_ HK.out HXL.out _ HBB.out <;> rfl)
        try simp only [Act.put, List.getElem_toArray, List.getElem_cons_succ, List.getElem_cons_zero, List.setIfInBounds_toArray, List.set_cons_zero, List.set_cons_succ]
        refine wpAnyH_done (by kernel_rfl) ?_ _
        go_wp2_with fail
        go_ret
        refine ⟨⟨k, rfl, ?_⟩, Bd HB.out⟩
        rw [decide_eq_true (by omega)]
        symm
        rw [List.contains_iff_mem]
        have : ks = x := by simpa using HBB.out
        rw [this, HX.out]
        exact List.getElem_mem hlt
    · obtain rfl : k = l.length := by omega
      clear hb hne hg
      go_wp2_with fail
      go_ret
      refine ⟨⟨-1, rfl, ?_⟩, HB.out⟩
      rw [decide_eq_false (by omega)]
      symm
      rw [Bool.eq_false_iff]
      intro h
      rw [List.contains_iff_mem] at h
      obtain ⟨j, hj, h⟩ := List.getElem_of_mem h
      exact HNE.out j hj hj h
theorem contains_any (S : Nat → Prop) (A : Option Addr) (c : Nat) (l : List (List Int)) (ks : List Int) (w : World) (hr : Rd w S 32 (.slice A l.length c) l.length (rowK l)) (hS : ∀ i, S i → i < w.heap.size) (hl : ∀ k ∈ l, k.length = 32) (hk : ks.length = 32) :
    Calls Try.prog 57 #[.slice A l.length c, .agg (bts ks).toArray] w fun e w' => e = .returned (.bool (l.contains ks)) ∧ Below w.heap.size w w' := by
  have HG := Lib.hid (Blk.new w 31 (bts ks).toArray)
  have HR := Lib.hid (hr.below (Ba (B0 w) (.cells (bts ks).toArray 31)) hS)
  have HS := Lib.hid (show ∀ i, S i → i < (w.alloc (.cells (bts ks).toArray 31)).heap.size from fun i hi => Nat.lt_of_lt_of_le (hS i hi) (by simp))
  have HL := Lib.hid hl
  have HK := Lib.hid hk
  have HLK := Lib.hid (show (bts ks).length = 32 by rw [bts_length]; exact hk)
  clear hr hS hl hk
  go_enter Try.func57, Try.ntmps57
  go_wp2_with (first | (refine step_load big_key rfl (.tmp 3) rfl w.heap.size 0 rfl (bts ks) HLK.out (blk_range HG.out) ?_) | fail)
  refine (index_any S A c l ks _ HR.out HS.out HL.out HK.out).mono ?_
  rintro e w1 ⟨⟨r, rfl, hr⟩, hb⟩
  have HB := Lib.hid hb
  clear hb
  have HRR := Lib.hid hr
  clear hr
  go_wp2_with fail
  go_ret
  exact ⟨ret_bool HRR.out, Bt (Ba (B0 w) _) HB.out⟩
end Go.Proofs.Ytgmndppjdnpejaa
