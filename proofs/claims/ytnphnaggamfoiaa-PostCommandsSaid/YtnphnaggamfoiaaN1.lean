/- The document's answer: what an op of a kind has. -/
import Derived.Test.YtnphnaggamfoiaaK2
namespace Go.Proofs.Ytnphnaggamfoiaa
open Go.RowKit
set_option maxRecDepth 20000
set_option linter.unusedVariables false
set_option linter.unusedSimpArgs false

theorem fold_sets : ∀ (vs : List Value) (off k : Nat) (cs : Array Value), off + k + vs.length ≤ cs.size → (vs.zipIdx k).foldl (fun (a : Array Value) (p : Value × Nat) => a.setIfInBounds (off + p.2) p.1) cs = (cs.toList.take (off + k) ++ (vs ++ cs.toList.drop (off + k + vs.length))).toArray
  | [], off, k, cs, _ => by
    apply Array.ext'
    simp
  | v :: vs, off, k, cs, h => by
    rw [List.length_cons] at h
    rw [List.zipIdx_cons, List.foldl_cons, fold_sets vs off (k + 1) _ (by simp; omega)]
    apply Array.ext'
    simp only [Array.toList_setIfInBounds, List.length_cons]
    have hk : off + k < cs.toList.length := by simp; omega
    rw [show off + (k + 1) = off + k + 1 by omega]
    have e1 : (cs.toList.set (off + k) v).take (off + k + 1) = cs.toList.take (off + k) ++ [v] := by
      rw [List.take_succ_eq_append_getElem (by simpa using hk), List.take_set_of_le (Nat.le_refl _), List.getElem_set_self]
    have e2 : (cs.toList.set (off + k) v).drop (off + k + 1 + vs.length) = cs.toList.drop (off + k + (vs.length + 1)) := by
      rw [List.drop_set_of_lt (by omega), show off + k + 1 + vs.length = off + k + (vs.length + 1) by omega]
    rw [e1, e2]
    simp
theorem fill_one {place : Nat → Option (Nat × Nat)} {cells : List Value} {i off : Nat} {v : Value} {vs : List Value} {rest : List (Nat × Value)} (hv : v.cells = vs.toArray) (hp : place i = some (off, vs.length)) (hf : off + vs.length ≤ cells.length) :
    Instr.fill place cells.toArray ((i, v) :: rest) = Instr.fill place (cells.take off ++ (vs ++ cells.drop (off + vs.length))).toArray rest := by
  rw [Instr.fill, hp]
  simp only
  rw [if_neg (by simp [hv]; omega)]
  congr 1
  have := fold_sets vs off 0 cells.toArray (by simpa using hf)
  rw [Nat.add_zero] at this
  rw [hv, ← Array.foldl_toList, Array.toList_zipIdx]
  exact this
theorem places34 (w : World) : ((Try.prog.fieldsOf 34).mapM (fun f => do pure (f.offset, ← sizeOf f.type)) : Sem _).run Try.prog w = .ok #[(0, 1), (1, 1), (2, 32), (34, 1), (35, 1), (36, 1)] w := by kernel_rfl
theorem zero34 (w : World) : (zeroValue 34).run Try.prog w = .ok (Ox.zero 0).v w := by kernel_rfl
theorem under34 : Try.prog.underlying 34 = some (.struct (Try.prog.fieldsOf 34)) := by kernel_rfl
theorem build34 {parts : Array (Nat × Value)} {cs : Array Value} (h : Instr.fill (#[(0, 1), (1, 1), (2, 32), (34, 1), (35, 1), (36, 1)][·]?) (Ox.zero 0).L.toArray parts.toList = some cs) (w : World) : (Instr.build 34 parts).run Try.prog w = .ok (.agg cs) w := by
  unfold Instr.build
  simp only [Sem.run_bind, zero34, run_underlying under34, Result.andThen_ok, places34, Value.cells, h, Sem.run_pure]
theorem fill12 (kd nd ex : Int) (ks : List Int) (h : ks.length = 32) : Instr.fill (#[(0, 1), (1, 1), (2, 32), (34, 1), (35, 1), (36, 1)][·]?) (Ox.zero 0).L.toArray [(0, .int .i64 kd), (1, .int .i64 nd), (2, .agg (bts ks).toArray), (3, .int .i64 ex)] = some (⟨kd, nd, ks, ex, ByteArray.empty, 0⟩ : Ox).L.toArray := by
  have hl : (bts ks).length = 32 := by simp [bts, h]
  rw [fill_one (vs := [.int .i64 kd]) (off := 0) rfl rfl (by rw [Ox.len z32_len]; simp)]
  change Instr.fill _ (Ox.zero kd).L.toArray _ = _
  rw [fill_one (vs := [.int .i64 nd]) (off := 1) rfl rfl (by rw [Ox.len z32_len]; simp)]
  change Instr.fill _ (⟨kd, nd, z32, 0, ByteArray.empty, 0⟩ : Ox).L.toArray _ = _
  rw [fill_one (vs := bts ks) (off := 2) rfl (by rw [hl]; rfl) (by rw [Ox.len z32_len, hl]; decide), hl]
  change Instr.fill _ (⟨kd, nd, ks, 0, ByteArray.empty, 0⟩ : Ox).L.toArray _ = _
  rw [fill_one (vs := [.int .i64 ex]) (off := 34) rfl rfl (by rw [Ox.len h]; simp), Instr.fill]
  have e1 : (⟨kd, nd, ks, 0, ByteArray.empty, 0⟩ : Ox).L.take 34 = .int .i64 kd :: .int .i64 nd :: bts ks := by
    simp only [Ox.L, List.take_succ_cons]
    rw [List.take_append_of_le_length (by omega), List.take_of_length_le (by omega)]
  have e2 : (⟨kd, nd, ks, 0, ByteArray.empty, 0⟩ : Ox).L.drop (34 + [Value.int .i64 ex].length) = [.string ByteArray.empty, .int .i64 0] := by
    simp only [Ox.L, List.length_singleton]
    rw [List.drop_succ_cons, List.drop_succ_cons, List.drop_append, hl, List.drop_eq_nil_of_le (by omega)]
    rfl
  rw [e1, e2]
  rfl
theorem fill3 (kd nd : Int) : Instr.fill (#[(0, 1), (1, 1), (2, 32), (34, 1), (35, 1), (36, 1)][·]?) (Ox.zero 0).L.toArray [(0, .int .i64 kd), (1, .int .i64 nd)] = some (⟨kd, nd, z32, 0, ByteArray.empty, 0⟩ : Ox).L.toArray := rfl
theorem fill4 (kd : Int) (tx : ByteArray) : Instr.fill (#[(0, 1), (1, 1), (2, 32), (34, 1), (35, 1), (36, 1)][·]?) (Ox.zero 0).L.toArray [(0, .int .i64 kd), (4, .string tx)] = some (⟨kd, 0, z32, 0, tx, 0⟩ : Ox).L.toArray := rfl
theorem fill5 (kd ti : Int) : Instr.fill (#[(0, 1), (1, 1), (2, 32), (34, 1), (35, 1), (36, 1)][·]?) (Ox.zero 0).L.toArray [(0, .int .i64 kd), (5, .int .i64 ti)] = some (⟨kd, 0, z32, 0, ByteArray.empty, ti⟩ : Ox).L.toArray := rfl
theorem step_build34 {ops : Array Oper} {rest : List Oper} {op : Oper} {a : Act} {w : World} {Q : Exit → Act → World → Prop} (hw : Region.wanted op (yielded ops a.tmps) = true) (ps : Array (Nat × Operand)) (ho : op.op = .build 34 ps)
    (cs : Array Value) (l : List (Nat × Value)) (hl : (ps.toList.map fun (p : Nat × Operand) => (p.1, a.eval p.2)) = l) (hf : Instr.fill (#[(0, 1), (1, 1), (2, 32), (34, 1), (35, 1), (36, 1)][·]?) (Ox.zero 0).L.toArray l = some cs)
    (h : wpList Try.prog ops Q rest (a.put op.dst (.agg cs)) w) : wpList Try.prog ops Q (op :: rest) a w :=
  BigFrame.wpList_want hw fun K hK => by
    unfold Oper.wp execOp
    have e : (ps.map fun (i, x) => (i, a.eval x)).toList = l := by rw [← hl]; simp
    simp only [ho, build34 (by rw [e]; exact hf), Sem.run_bind, Result.andThen_ok, Sem.run_pure]
    exact hK _ _ h
theorem step_load32 {ops : Array Oper} {rest : List Oper} {op : Oper} {a : Act} {w : World} {Q : Exit → Act → World → Prop} (hw : Region.wanted op (yielded ops a.tmps) = true) (x : Operand) (ho : op.op = .load 32 x)
    (b off : Nat) (hx : a.eval x = .pointer (some ⟨b, off, none⟩)) (ks : List Int) (hk : ks.length = 32) (hr : w.rangeAt b off (bts ks))
    (h : wpList Try.prog ops Q rest (a.put op.dst (.agg (bts ks).toArray)) w) : wpList Try.prog ops Q (op :: rest) a w :=
  BigFrame.wpList_want hw fun K hK => wp_load_mid 32 x ho b off hx (bts ks) _ hr Try.underlying32 rfl (by rw [info32]; simp [bts, hk]) (hK _ _ h)
theorem load34v {w : World} {g : Nat} {c : Ox} (hb : Blk w g 34 c.L.toArray) (hk : c.ks.length = 32) : (loadVar 34 ⟨g, 0, none⟩).run Try.prog w = .ok c.v w :=
  run_loadVar_row w g 34 34 c.L.toArray (0, 0) _ hb Try.underlying34 rfl (by rw [info34]; simp [Ox.len hk])
theorem results_cell34 {fn : Func} (hf : fn.results = #[.cell 2 34]) {tmps : Array Value} {g : Nat} {v : Value} {w : World} (ht : tmps.getD 2 undef = .pointer (some ⟨g, 0, none⟩)) (h : (loadVar 34 ⟨g, 0, none⟩).run Try.prog w = .ok v w) : (results fn tmps).run Try.prog w = .ok v w := by
  unfold results
  rw [hf]
  simp only [List.mapM_toArray, List.mapM_cons, List.mapM_nil, ht, asAddr, pure_bind, bind_pure_comp, Functor.map_map, map_bind]
  simp [Sem.run_bind, h, Result.andThen_ok, Sem.run_pure]
/-- The document's: what an op of a kind has, of one. -/
def Ox.ownD (o : Ox) : Ox :=
  if o.kd = 1 ∨ o.kd = 2 then ⟨o.kd, o.nd, o.ks, o.ex, ByteArray.empty, 0⟩ else if o.kd = 3 then ⟨o.kd, o.nd, z32, 0, ByteArray.empty, 0⟩ else if o.kd = 4 then ⟨o.kd, 0, z32, 0, o.tx, 0⟩ else ⟨o.kd, 0, z32, 0, ByteArray.empty, o.ti⟩
theorem Ox.ownD_ks {o : Ox} (h : o.ks.length = 32) : o.ownD.ks.length = 32 := by
  unfold Ox.ownD
  split
  · exact h
  · split
    · exact z32_len
    · split
      · exact z32_len
      · exact z32_len
theorem Ox.ownD_own {o : Ox} (h : 1 ≤ o.kd ∧ o.kd ≤ 5) : o.ownD = o.own := by
  unfold Ox.ownD Ox.own
  split
  · rfl
  · split
    · rfl
    · split
      · rfl
      · rw [if_pos (by omega)]
set_option maxHeartbeats 4000000 in
theorem refop_any (o : Ox) (W : World) (hk : o.ks.length = 32) :
    Calls Try.prog 75 #[o.v] W fun e w' => e = .returned o.ownD.v ∧ Below W.heap.size W w' := by
  have HK := Lib.hid hk
  have HKD := Lib.hid (Ox.ownD_ks hk)
  have x0 : o.L[0]? = some (.int .i64 o.kd) := rfl
  have x1 : o.L[1]? = some (.int .i64 o.nd) := rfl
  have x34 : o.L[34]? = some (.int .i64 o.ex) := by have := Ox.at34 hk; simpa using this
  have x35 : o.L[35]? = some (.string o.tx) := by have := Ox.at35 hk; simpa using this
  have x36 : o.L[36]? = some (.int .i64 o.ti) := by have := Ox.at36 hk; simpa using this
  have HRK := Lib.hid (fun (z : Obj) => (ox_cells (blk_range ((Blk.new W 34 o.L.toArray).alloc z)) hk).2.2.1)
  simp only [Nat.zero_add] at HRK
  have HX := Lib.hid (show ∀ (c : Ox) (z : Obj) (w2 : World), o.ownD = c → Blk w2 (W.heap.size + 1) 34 c.L.toArray → Mod (fun j => j = W.heap.size + 1) ((W.alloc (.cells o.L.toArray 34)).alloc z) w2 → (loadVar 34 ⟨W.heap.size + 1, 0, none⟩).run Try.prog w2 = .ok o.ownD.v w2 ∧ Below W.heap.size W w2 from fun c z w2 hc hb hm => by
    subst hc
    exact ⟨load34v hb HKD.out, Bm (Ba (Ba (B0 W) _) _) hm (fun i hi => by omega)⟩)
  clear hk
  by_cases k1 : o.kd = 1
  · skip
    have e0 : (o.kd == 1) = true := by simp [k1]
    have HO := Lib.hid (show o.ownD = ⟨o.kd, o.nd, o.ks, o.ex, ByteArray.empty, 0⟩ by unfold Ox.ownD; rw [if_pos (.inl k1)])
    clear k1
    go_enter Try.func75, Try.ntmps75
    go_wp2_with (first | (refine step_load32 rfl (.tmp 12) rfl W.heap.size 2 rfl o.ks HK.out (HRK.out _) ?_) | (refine step_build34 rfl _ rfl _ [(0, .int .i64 o.kd), (1, .int .i64 o.nd), (2, .agg (bts o.ks).toArray), (3, .int .i64 o.ex)] rfl (fill12 _ _ _ _ HK.out) ?_) | (refine step_store34 rfl (.tmp 2) (.tmp 16) rfl (W.heap.size + 1) rfl ⟨o.kd, o.nd, o.ks, o.ex, ByteArray.empty, 0⟩ HK.out rfl _ (Blk.new1 _ _ _ _) rfl ?_; intro w2 hb2 hm2 hs2; have HF := Lib.hid (HX.out _ _ w2 HO.out hb2 hm2); clear hb2 hm2 hs2) | fail)
    refine bodyPost_ret (v := o.ownD.v) (results_cell34 (by kernel_rfl) rfl HF.out.1) rfl ?_
    exact ⟨rfl, HF.out.2⟩
  · by_cases k2 : o.kd = 2
    · skip
      have e0 : (o.kd == 1) = false := by simp [k2]
      have e1 : (o.kd == 2) = true := by simp [k2]
      have HO := Lib.hid (show o.ownD = ⟨o.kd, o.nd, o.ks, o.ex, ByteArray.empty, 0⟩ by unfold Ox.ownD; rw [if_pos (.inr k2)])
      clear k1 k2
      go_enter Try.func75, Try.ntmps75
      go_wp2_with (first | (refine step_load32 rfl (.tmp 12) rfl W.heap.size 2 rfl o.ks HK.out (HRK.out _) ?_) | (refine step_build34 rfl _ rfl _ [(0, .int .i64 o.kd), (1, .int .i64 o.nd), (2, .agg (bts o.ks).toArray), (3, .int .i64 o.ex)] rfl (fill12 _ _ _ _ HK.out) ?_) | (refine step_store34 rfl (.tmp 2) (.tmp 16) rfl (W.heap.size + 1) rfl ⟨o.kd, o.nd, o.ks, o.ex, ByteArray.empty, 0⟩ HK.out rfl _ (Blk.new1 _ _ _ _) rfl ?_; intro w2 hb2 hm2 hs2; have HF := Lib.hid (HX.out _ _ w2 HO.out hb2 hm2); clear hb2 hm2 hs2) | fail)
      refine bodyPost_ret (v := o.ownD.v) (results_cell34 (by kernel_rfl) rfl HF.out.1) rfl ?_
      exact ⟨rfl, HF.out.2⟩
    · by_cases k3 : o.kd = 3
      · skip
        have e0 : (o.kd == 1) = false := by simp [k3]
        have e1 : (o.kd == 2) = false := by simp [k3]
        have e2 : (o.kd == 3) = true := by simp [k3]
        have HO := Lib.hid (show o.ownD = ⟨o.kd, o.nd, z32, 0, ByteArray.empty, 0⟩ by unfold Ox.ownD; rw [if_neg (by omega), if_pos k3])
        clear k1 k2 k3
        go_enter Try.func75, Try.ntmps75
        go_wp2_with (first | (refine step_build34 rfl _ rfl _ [(0, .int .i64 o.kd), (1, .int .i64 o.nd)] rfl (fill3 _ _) ?_) | (refine step_store34 rfl (.tmp 2) (.tmp 23) rfl (W.heap.size + 1) rfl ⟨o.kd, o.nd, z32, 0, ByteArray.empty, 0⟩ z32_len rfl _ (Blk.new1 _ _ _ _) rfl ?_; intro w2 hb2 hm2 hs2; have HF := Lib.hid (HX.out _ _ w2 HO.out hb2 hm2); clear hb2 hm2 hs2) | fail)
        refine bodyPost_ret (v := o.ownD.v) (results_cell34 (by kernel_rfl) rfl HF.out.1) rfl ?_
        exact ⟨rfl, HF.out.2⟩
      · by_cases k4 : o.kd = 4
        · skip
          have e0 : (o.kd == 1) = false := by simp [k4]
          have e1 : (o.kd == 2) = false := by simp [k4]
          have e2 : (o.kd == 3) = false := by simp [k4]
          have e3 : (o.kd == 4) = true := by simp [k4]
          have HO := Lib.hid (show o.ownD = ⟨o.kd, 0, z32, 0, o.tx, 0⟩ by unfold Ox.ownD; rw [if_neg (by omega), if_neg k3, if_pos k4])
          clear k1 k2 k3 k4
          go_enter Try.func75, Try.ntmps75
          go_wp2_with (first | (refine step_build34 rfl _ rfl _ [(0, .int .i64 o.kd), (4, .string o.tx)] rfl (fill4 _ _) ?_) | (refine step_store34 rfl (.tmp 2) (.tmp 30) rfl (W.heap.size + 1) rfl ⟨o.kd, 0, z32, 0, o.tx, 0⟩ z32_len rfl _ (Blk.new1 _ _ _ _) rfl ?_; intro w2 hb2 hm2 hs2; have HF := Lib.hid (HX.out _ _ w2 HO.out hb2 hm2); clear hb2 hm2 hs2) | fail)
          refine bodyPost_ret (v := o.ownD.v) (results_cell34 (by kernel_rfl) rfl HF.out.1) rfl ?_
          exact ⟨rfl, HF.out.2⟩
        · skip
          have e0 : (o.kd == 1) = false := by simpa using k1
          have e1 : (o.kd == 2) = false := by simpa using k2
          have e2 : (o.kd == 3) = false := by simpa using k3
          have e3 : (o.kd == 4) = false := by simpa using k4
          have HO := Lib.hid (show o.ownD = ⟨o.kd, 0, z32, 0, ByteArray.empty, o.ti⟩ by unfold Ox.ownD; rw [if_neg (by omega), if_neg k3, if_neg k4])
          clear k1 k2 k3 k4
          go_enter Try.func75, Try.ntmps75
          go_wp2_with (first | (refine step_build34 rfl _ rfl _ [(0, .int .i64 o.kd), (5, .int .i64 o.ti)] rfl (fill5 _ _) ?_) | (refine step_store34 rfl (.tmp 2) (.tmp 35) rfl (W.heap.size + 1) rfl ⟨o.kd, 0, z32, 0, ByteArray.empty, o.ti⟩ z32_len rfl _ (Blk.new1 _ _ _ _) rfl ?_; intro w2 hb2 hm2 hs2; have HF := Lib.hid (HX.out _ _ w2 HO.out hb2 hm2); clear hb2 hm2 hs2) | fail)
          refine bodyPost_ret (v := o.ownD.v) (results_cell34 (by kernel_rfl) rfl HF.out.1) rfl ?_
          exact ⟨rfl, HF.out.2⟩
end Go.Proofs.Ytnphnaggamfoiaa
