/- A table's peer. -/
import Derived.Test.YtgmndppjdnpejaaB8
import Derived.Deep.QuietTactic
import Derived.BigQuiet
namespace Go.Proofs.Ytgmndppjdnpejaa
open Go.RowKit
open Go.Maps (Keyed)
set_option maxRecDepth 20000
set_option linter.unusedVariables false
set_option linter.unusedSimpArgs false

def zPe : Pe := ⟨0, z32, 0, none, 0, [], none, 0, []⟩
theorem zPe_at (w : World) (S : Nat → Prop) : PeAt w S zPe := ⟨z32_len, z32_byt, Rd.nil _ _ _, Rd.nil _ _ _⟩
theorem zPe_len : zPe.L.length = 36 := Pe.len z32_len
theorem zero_peer (w : World) : (zeroValue 43).run Try.prog w = .ok zPe.v w := by kernel_rfl
theorem places_peer (w : World) : ((Try.prog.fieldsOf 43).mapM (fun f => do pure (f.offset, ← sizeOf f.type)) : Sem _).run Try.prog w = .ok #[(0, 1), (1, 32), (33, 1), (34, 1), (35, 1)] w := by kernel_rfl
theorem under_peer : Try.prog.underlying 43 = some (.struct (Try.prog.fieldsOf 43)) := by kernel_rfl
theorem build_peer0 (w : World) : (Instr.build 43 ([] : List (Nat × Value)).toArray).run Try.prog w = .ok (.agg zPe.L.toArray) w :=
  run_build under_peer zero_peer places_peer rfl w
theorem load_big {t e : TypeId} {n : Nat} (B : BigT t n) {w : World} {g : Nat} {L : List Value} (h : Blk w g e L.toArray) (hL : L.length = n) : (loadVar t ⟨g, 0, none⟩).run Try.prog w = .ok (.agg L.toArray) w := by
  obtain ⟨d, hu, hd⟩ := B.row
  exact Go.run_loadVar_mid w g 0 t L d (blk_range h) hu hd (by rw [B.sz, hL])
theorem key_int {n : Int} (h0 : -9223372036854775808 ≤ n) (h1 : n ≤ 9223372036854775807) : keyOf Try.prog 3 (.int .i64 n) = some (.int .i64 n) := Go.Maps.keyOf_int_mk Try.underlying3 (by
  simp only [Lit.wf, Bool.and_eq_true, decide_eq_true_eq]
  show (-9223372036854775808 : Int) ≤ _ ∧ _ ≤ (9223372036854775807 : Int)
  omega)
theorem lkN_nil (n : Int) : lkN [] n = none := rfl
theorem lkK_nil (k : List Int) : lkK [] k = none := rfl
theorem look_node {w : World} {S : Nat → Prop} {mk mn : Option Nat} {ps : List Pe} (h : TbMaps w S mk mn ps) {n : Int} (h0 : -9223372036854775808 ≤ n) (h1 : n ≤ 9223372036854775807) :
    (Instr.lookup 69 (.map mn) (.int .i64 n) true).run Try.prog w = .ok (.tuple #[((lkN ps n).getD zPe).v, .bool (lkN ps n).isSome]) w := by
  rcases h with ⟨_, e2, e3⟩ | ⟨bk, bn, nk, nn, fk, fn, e1, e2, s1, s2, hne, m1, m2, f1, f2, hp⟩
  · subst e2 e3
    rw [Maps.look_nil true keyed_int Try.underlying69 (zero_peer w) (key_int h0 h1)]
    rfl
  · subst e2
    rw [(m2.look keyed_int Try.underlying69 (zero_peer w) (key_int h0 h1)).2, f2 n]
    cases lkN ps n <;> rfl
theorem zero_int (w : World) : (zeroValue 3).run Try.prog w = .ok (.int .i64 0) w := by kernel_rfl
theorem look_key {w : World} {S : Nat → Prop} {mk mn : Option Nat} {ps : List Pe} (h : TbMaps w S mk mn ps) {ks : List Int} (hb : Byt ks) (hl : ks.length = 32) :
    (Instr.lookup 68 (.map mk) (.agg (bts ks).toArray) false).run Try.prog w = .ok (.int .i64 (((lkK ps ks).map Pe.nd).getD 0)) w := by
  obtain ⟨kl, hkl⟩ := key_of hb hl
  rcases h with ⟨e1, _, e3⟩ | ⟨bk, bn, nk, nn, fk, fn, e1, e2, s1, s2, hne, m1, m2, f1, f2, hp⟩
  · subst e1 e3
    rw [Maps.look_nil false keyed_key Try.underlying68 (zero_int w) hkl]
    rfl
  · subst e1
    rw [(m1.look keyed_key Try.underlying68 (zero_int w) hkl).1, f1 ks]
    cases lkK ps ks <;> rfl
theorem step_lookV {t : TypeId} {w : World} {ops : Array Oper} {rest : List Oper} {op : Oper} {a : Act} {Q : Exit → Act → World → Prop} (hw : Region.wanted op (yielded ops a.tmps) = true) (m x : Operand) (c : Bool) (hop : op.op = Op.lookup t m x c) (mv key v : Value) (hm : a.eval m = mv) (hx : a.eval x = key)
    (hr : (Instr.lookup t mv key c).run Try.prog w = .ok v w) (hK : wpList Try.prog ops Q rest (a.put op.dst v) w) : wpList Try.prog ops Q (op :: rest) a w :=
  BigFrame.wpList_want hw fun K' hK' => by
    unfold Oper.wp
    simp [execOp, hop, hm, hx, hr, Result.andThen]
    exact hK' _ _ hK
/-- The peer of a node that counts at a tick. -/
def pkN (tick : Int) (ps : List Pe) (n : Int) : Option Pe := (lkN ps n).filter (fun p => decide (tick < p.ex))
def PeerDid (q : Option Pe) (w : World) (e : Ending) (w' : World) : Prop := e = .returned (.tuple #[(q.getD zPe).v, .bool q.isSome]) ∧ Below w.heap.size w w'
theorem lkN_at {w : World} {S : Nat → Prop} {ps : List Pe} (h : ∀ p ∈ ps, PeAt w S p) (n : Int) : PeAt w S ((lkN ps n).getD zPe) := by
  cases hq : lkN ps n
  · exact zPe_at w S
  · exact h _ (by have := List.mem_of_find?_eq_some hq; simpa using this)

set_option maxHeartbeats 4000000 in
theorem peer_any (S : Nat → Prop) (g : Nat) (node tick ver : Int) (ps : List Pe) (n : Int) (W : World) (h : TbAt W S g node tick ver ps) (hn : 1 ≤ node) (h0 : -9223372036854775808 ≤ n) (h1 : n ≤ 9223372036854775807) (hks : ∀ p ∈ ps, p.ks.length = 32) :
    Calls Try.prog 45 #[.pointer (some ⟨g, 0, none⟩), .int .i64 n] W (PeerDid (pkN tick ps n) W) := by
  obtain ⟨w1, hw1⟩ : ∃ u, u = W.alloc (.cells zPe.L.toArray 43) := ⟨_, rfl⟩
  have hb1 : Below W.heap.size W w1 := by rw [hw1]; exact Ba (B0 W) _
  obtain ⟨s1, s2, mk, mn, hb, hmp⟩ := h.below hb1
  have HT := Lib.hid hb
  have HR := Lib.hid (show Blk w1 W.heap.size 43 zPe.L.toArray by rw [hw1]; exact Blk.new _ _ _)
  have HB1 := Lib.hid hb1
  have HW1 := Lib.hid hw1
  have HLK := Lib.hid (look_node hmp h0 h1)
  have hgW : g < W.heap.size := by obtain ⟨t1, t2, _⟩ := h; exact t2 _ t1
  have y4 : w1.cell? ⟨g, 4, none⟩ = some (.map mn) := hb.cell 4
  have y1 : w1.cell? ⟨g, 1, none⟩ = some (.int .i64 tick) := hb.cell 1
  have lg := hb.lt
  have lr := HR.out.lt
  obtain ⟨Q, hQ⟩ : ∃ Q, Q = lkN ps n := ⟨_, rfl⟩
  obtain ⟨q, hq⟩ : ∃ q, q = Q.getD zPe := ⟨_, rfl⟩
  have HQL := Lib.hid (show q.L.length = 36 by
    rw [hq, hQ]
    apply Pe.len
    cases hf : lkN ps n with
    | none => exact z32_len
    | some p => exact hks p (by have := List.mem_of_find?_eq_some hf; simpa using this))
  have HQK := Lib.hid (show q.ks.length = 32 by
    rw [hq, hQ]
    cases hf : lkN ps n with
    | none => exact z32_len
    | some p => exact hks p (by have := List.mem_of_find?_eq_some hf; simpa using this))
  rw [← hQ, ← hq] at HLK
  have HQ := Lib.hid hq
  have HPK : Hid (pkN tick ps n = Q.filter (fun p => decide (tick < p.ex))) := Lib.hid (by unfold pkN; rw [← hQ])
  clear h hb1 hb hmp s1 s2 hw1 hQ hks hq
  have hgz : w1.heap.size ≠ g := by omega
  have hgr : w1.heap.size ≠ W.heap.size := by omega
  have hgr2 : g ≠ W.heap.size := by omega
  go_enter Try.func45, Try.ntmps45
  go_upto_region 1 with fail
  change Code.wp _ _ _ _ (W.alloc (.cells zPe.L.toArray 43))
  rw [← HW1.out]
  go_upto_region 4 with (first | (go_at_call 33; refine (none_any g node tick ver mk mn _ HT.out hn).mono ?_; rintro e w' ⟨rfl, rfl⟩) | (refine step_lookV rfl (.tmp 15) (.tmp 16) true rfl _ _ _ rfl rfl HLK.out ?_) | (refine step_store big_peer rfl (.tmp 6) (.tmp 18) rfl w1.heap.size rfl q.L HQL.out q.one rfl 43 _ (Blk.new w1 43 _) rfl ?_; intro w2 hb2 hm2 hs2; have HP := Lib.hid hb2; have HM2 := Lib.hid hm2; clear hb2 hm2 hs2) | fail)
  have HR2 := Lib.hid ((HR.out.alloc _).kept HM2.out (fun h => hgr h.symm))
  have HT2 := Lib.hid ((HT.out.alloc _).kept HM2.out (fun h => hgz h.symm))
  have HB2 := Lib.hid (show Below W.heap.size W w2 from Bm (Ba HB1.out _) HM2.out (fun i hi => by omega))
  have hpc := pe_cells (blk_range HP.out) HQK.out
  simp only [Nat.zero_add] at hpc
  have x33 := hpc.2.2.1
  have x1 : w2.cell? ⟨g, 1, none⟩ = some (.int .i64 tick) := HT2.out.cell 1
  have lp := HP.out.lt
  have lg2 := HT2.out.lt
  clear hpc y1 y4 lg lr HT HR HLK
  rcases Q with _ | p
  · have HQQ := Lib.hid (show q = zPe from HQ.out)
    go_wp2_with fail
    go_quiet (fail)
    go_wp2_with (first | (refine step_build rfl _ rfl [] rfl zPe.L.toArray (build_peer0 _) ?_) | (refine step_load big_peer rfl (.tmp 6) rfl w1.heap.size 0 rfl q.L HQL.out (blk_range HP.out.drew) ?_) | (refine step_store big_peer rfl (.tmp 4) (.tmp 31) rfl W.heap.size rfl zPe.L zPe_len zPe.one rfl 43 _ HR2.out.drew (by simp [zPe_len]) ?_; intro w3 hb3 hm3 hs3; have HF := Lib.hid hb3; have HM3 := Lib.hid hm3; clear hb3 hm3 hs3) | fail)
    refine bodyPost_ret (v := .tuple #[zPe.v, .bool false]) (by simp [results, Try.results45, asAddr, load_big big_peer HF.out zPe_len]) rfl ?_
    exact ⟨by rw [HPK.out]; rfl, Bm (BdN HB2.out _) HM3.out (fun i hi => by omega)⟩
  · have HQQ := Lib.hid (show q = p from HQ.out)
    by_cases hx : q.ex ≤ tick
    · have hd : decide (q.ex ≤ tick) = true := decide_eq_true hx
      go_wp2_with fail
      go_quiet (fail)
      go_wp2_with (first | (refine step_build rfl _ rfl [] rfl zPe.L.toArray (build_peer0 _) ?_) | (refine step_load big_peer rfl (.tmp 6) rfl w1.heap.size 0 rfl q.L HQL.out (blk_range HP.out.drew) ?_) | (refine step_store big_peer rfl (.tmp 4) (.tmp 31) rfl W.heap.size rfl zPe.L zPe_len zPe.one rfl 43 _ HR2.out.drew (by simp [zPe_len]) ?_; intro w3 hb3 hm3 hs3; have HF := Lib.hid hb3; have HM3 := Lib.hid hm3; clear hb3 hm3 hs3) | fail)
      refine bodyPost_ret (v := .tuple #[zPe.v, .bool false]) (by simp [results, Try.results45, asAddr, load_big big_peer HF.out zPe_len]) rfl ?_
      exact ⟨by rw [HPK.out]; rw [Option.filter_some, decide_eq_false (by rw [← HQQ.out]; omega)]; rfl, Bm (BdN HB2.out _) HM3.out (fun i hi => by omega)⟩
    · have hd : decide (q.ex ≤ tick) = false := decide_eq_false hx
      go_wp2_with fail
      go_quiet (fail)
      go_wp2_with (first | (refine step_build rfl _ rfl [] rfl zPe.L.toArray (build_peer0 _) ?_) | (refine step_load big_peer rfl (.tmp 6) rfl w1.heap.size 0 rfl q.L HQL.out (blk_range HP.out.drew) ?_) | (refine step_store big_peer rfl (.tmp 4) (.tmp 32) rfl W.heap.size rfl q.L HQL.out q.one rfl 43 _ HR2.out.drew (by simp [zPe_len]) ?_; intro w3 hb3 hm3 hs3; have HF := Lib.hid hb3; have HM3 := Lib.hid hm3; clear hb3 hm3 hs3) | fail)
      refine bodyPost_ret (v := .tuple #[q.v, .bool true]) (by simp [results, Try.results45, asAddr, load_big big_peer HF.out HQL.out]) rfl ?_
      exact ⟨by rw [HPK.out]; rw [Option.filter_some, decide_eq_true (by rw [← HQQ.out]; omega), HQQ.out]; rfl, Bm (BdN HB2.out _) HM3.out (fun i hi => by omega)⟩
end Go.Proofs.Ytgmndppjdnpejaa
