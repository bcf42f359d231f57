/- The document's netmap: its peers. -/
import Derived.Test.YtgmndppjdnpejaaR1
namespace Go.Proofs.Ytgmndppjdnpejaa
open Go.RowKit
set_option maxRecDepth 20000
set_option linter.unusedVariables false
set_option linter.unusedSimpArgs false

/-- Whole rows in a region that only reads. -/
theorem q_load {t : TypeId} {n : Nat} (B : BigT t n) {ops : Array Oper} {rest : List Oper} {op : Oper} {a : Act} {w0 : World} {Q : Act → Prop} (hw : Region.wanted op (yielded ops a.tmps) = true) (x : Operand) (ho : op.op = .load t x)
    (b off : Nat) (hx : a.eval x = .pointer (some ⟨b, off, none⟩)) (L : List Value) (hL : L.length = n) (hr : w0.rangeAt b off L)
    (h : wpQuiet Try.prog ops (fun w' => ∃ m, w' = w0.drewN m) Q rest (a.put op.dst (.agg L.toArray))) : wpQuiet Try.prog ops (fun w' => ∃ m, w' = w0.drewN m) Q (op :: rest) a :=
  BigFrame.wpQuiet_want hw fun K hK => ⟨_, fun w ⟨m, e⟩ => by unfold Oper.quietAt; subst e; rw [exec_load (w := w0.drewN m) B x ho b off hx L hL hr]; exact ⟨rfl, rfl⟩, hK _ h⟩
theorem q_eqK {ops : Array Oper} {rest : List Oper} {op : Oper} {a : Act} {w0 : World} {Q : Act → Prop} (hw : Region.wanted op (yielded ops a.tmps) = true) (x y : Operand) (ho : op.op = .binOp .eql 31 x y 31) (xs ys : List Int) (hx : a.eval x = .agg (bts xs).toArray) (hy : a.eval y = .agg (bts ys).toArray)
    (hxl : xs.length = 32) (hyl : ys.length = 32) (b : Bool) (hb : (xs == ys) = b) (h : wpQuiet Try.prog ops (fun w' => ∃ m, w' = w0.drewN m) Q rest (a.put op.dst (.bool b))) : wpQuiet Try.prog ops (fun w' => ∃ m, w' = w0.drewN m) Q (op :: rest) a :=
  BigFrame.wpQuiet_want hw fun K hK => ⟨_, fun w ⟨m, e⟩ => by unfold Oper.quietAt; subst e; rw [exec_eqK x y ho xs ys hx hy hxl hyl b hb]; exact ⟨rfl, rfl⟩, hK _ h⟩
theorem q_build {t : TypeId} {ops : Array Oper} {rest : List Oper} {op : Oper} {a : Act} {w0 : World} {Q : Act → Prop} (hw : Region.wanted op (yielded ops a.tmps) = true) (ps : Array (Nat × Operand)) (ho : op.op = .build t ps)
    (vs : List (Nat × Value)) (hp : (ps.toList.map fun (p : Nat × Operand) => (p.1, a.eval p.2)) = vs) (L : Array Value) (hr : ∀ w, (Instr.build t vs.toArray).run Try.prog w = .ok (.agg L) w)
    (h : wpQuiet Try.prog ops (fun w' => ∃ m, w' = w0.drewN m) Q rest (a.put op.dst (.agg L))) : wpQuiet Try.prog ops (fun w' => ∃ m, w' = w0.drewN m) Q (op :: rest) a :=
  BigFrame.wpQuiet_want hw fun K hK => ⟨_, fun w ⟨m, e⟩ => by
    unfold Oper.quietAt execOp
    have e2 : (ps.map fun (i, x) => (i, a.eval x)) = vs.toArray := by apply Array.ext'; rw [← hp]; simp
    subst e
    simp only [ho, e2, hr, Sem.run_bind, Result.andThen_ok, Sem.run_pure]
    exact ⟨rfl, rfl⟩, hK _ h⟩
theorem qnode {n : Int} {r : Bool} (h : ndB n = r) (w : World) (m : Nat) : Calls Try.prog 49 #[.int .i64 n] (w.drewN m) fun e w'' => e = .returned (.bool r) ∧ ∃ k, w'' = w.drewN k :=
  Calls.quiet_of_same ((rnode_is h _).mono fun _ _ ⟨he, hw⟩ => ⟨he, hw.symm⟩)
theorem qnumber {n : Int} {r : Bool} (h : nuB n = r) (w : World) (m : Nat) : Calls Try.prog 48 #[.int .i64 n] (w.drewN m) fun e w'' => e = .returned (.bool r) ∧ ∃ k, w'' = w.drewN k :=
  Calls.quiet_of_same ((rnumber_is h _).mono fun _ _ ⟨he, hw⟩ => ⟨he, hw.symm⟩)
theorem qspans {S : Nat → Prop} {A : Option Addr} {c : Nat} {l : List Sp} {r : Bool} (h : spB l = r) (w : World) (m : Nat) (hr : Rd w S 2 (.slice A l.length c) l.length (rowS l)) (hS : ∀ i, S i → i < w.heap.size) : Calls Try.prog 61 #[.slice A l.length c] (w.drewN m) fun e w'' => e = .returned (.bool r) ∧ ∃ k, w'' = w.drewN k := by
  subst h
  exact Calls.quiet_of (rspans_any S A c l (w.drewN m) (hr.kept (Mod.drewN (Mod.refl (fun _ => False) w) m) (fun _ _ h => h)) hS)

/-- May these be the peers of a netmap with this clock, node and key? -/
def rpB (c n : Int) (ks : List Int) (ps : List Pe) : Bool := if ks = z32 then ps.length == 0 else goB c n 0 [z32, ks] ps
/-- The node ahead of place k. -/
def prevN (ps : List Pe) (k : Nat) (t : Int) : Prop := (k = 0 ∧ t = 0) ∨ ∃ (j : Nat) (hj : j < ps.length), k = j + 1 ∧ t = (ps[j]).nd
theorem not_mem_keys {ks x : List Int} {ps : List Pe} {k : Nat} (h0 : x ≠ z32) (h1 : x ≠ ks) (hn : ∀ j (hj : j < ps.length), j < k → (ps[j]).ks ≠ x) : ([z32, ks] ++ (ps.take k).map Pe.ks).contains x = false := by
  rw [Bool.eq_false_iff]
  intro h
  rw [List.contains_iff_mem, List.mem_append] at h
  rcases h with h | h
  · simp at h
    rcases h with h | h
    · exact h0 h
    · exact h1 h
  · obtain ⟨p, hp, e⟩ := List.mem_map.1 h
    obtain ⟨j, hj, e2⟩ := List.getElem_of_mem hp
    rw [List.getElem_take] at e2
    have hjk : j < k ∧ j < ps.length := by simp at hj; omega
    exact hn j hjk.2 hjk.1 (by rw [e2]; exact e)
theorem mem_keys {ks x : List Int} {ps : List Pe} {k j : Nat} (hj : j < ps.length) (hk : j < k) (h : (ps[j]).ks = x) : ([z32, ks] ++ (ps.take k).map Pe.ks).contains x = true := by
  rw [List.contains_iff_mem, List.mem_append]
  refine .inr (List.mem_map.2 ⟨ps[j], ?_, h⟩)
  have : (ps.take k)[j]'(by simp; omega) = ps[j] := List.getElem_take
  rw [← this]
  exact List.getElem_mem _

set_option maxHeartbeats 8000000 in
theorem rpeers_any (S : Nat → Prop) (c n : Int) (ks : List Int) (A : Option Addr) (cp : Nat) (ps : List Pe) (W : World) (hk : ks.length = 32) (hr : Rd W S 36 (.slice A ps.length cp) ps.length (rowP ps)) (he : ∀ p ∈ ps, PeAt W S p) (hS : ∀ i, S i → i < W.heap.size) :
    Calls Try.prog 51 #[.slice A ps.length cp, .int .i64 c, .int .i64 n, .agg (bts ks).toArray] W fun e w' => e = .returned (.bool (rpB c n ks ps)) ∧ Below W.heap.size W w' := by
  have hcap := hr.cap.2
  have hc1 := hcap.1
  have hc2 := hcap.2
  unfold maxLen at hc2
  obtain ⟨w1, hw1⟩ : ∃ u, u = W.alloc (.cells (bts ks).toArray 31) := ⟨_, rfl⟩
  have HG := Lib.hid (show Blk w1 W.heap.size 31 (bts ks).toArray by rw [hw1]; exact Blk.new _ _ _)
  have hb1 : Below W.heap.size W w1 := by rw [hw1]; exact Ba (B0 W) _
  have HB1 := Lib.hid hb1
  have HW1 := Lib.hid hw1
  have HLK := Lib.hid (show (bts ks).length = 32 by rw [bts_length]; exact hk)
  have HK := Lib.hid hk
  have HR := Lib.hid (hr.below hb1 hS)
  have HE := Lib.hid (show ∀ p ∈ ps, PeAt w1 S p from fun p hp => (he p hp).below hb1 hS)
  have HS := Lib.hid hS
  clear hk hr he hS hcap hw1 hb1
  rcases Nat.eq_zero_or_pos ps.length with h0 | h0
  · obtain rfl : ps = [] := List.eq_nil_of_length_eq_zero h0
    have HRES := Lib.hid (show rpB c n ks [] = true by unfold rpB; split <;> rfl)
    clear h0
    go_enter Try.func51, Try.ntmps51
    go_upto_region 1 with fail
    change Code.wp _ _ _ _ (W.alloc (.cells (bts ks).toArray 31))
    rw [← HW1.out]
    go_wp2_with fail
    go_rounds 1
    go_ret
    exact ⟨ret_bool HRES.out.symm, HB1.out⟩
  · have h0' : decide ((0 : Int) < (ps.length : Int)) = true := by simp; omega
    have h0'' : decide (0 < ps.length) = true := by simp; omega
    by_cases hz : ks = z32
    · have HRES := Lib.hid (show rpB c n ks ps = (ps.length == 0) from if_pos hz)
      have HQ := Lib.hid (show (ks == z32) = true by simp [hz])
      clear hz
      have HX := Lib.hid (show (ps.length == 0) = false by rw [beq_eq_false_iff_ne]; omega)
      go_enter Try.func51, Try.ntmps51
      go_upto_region 1 with fail
      change Code.wp _ _ _ _ (W.alloc (.cells (bts ks).toArray 31))
      rw [← HW1.out]
      go_wp2_with (first | (refine step_load big_key (by first | rfl | simp [Region.wanted, yielded]) (.tmp 7) rfl W.heap.size 0 rfl (bts ks) HLK.out (blk_range HG.out) ?_) | (refine step_build (t := 31) (by first | rfl | simp [Region.wanted, yielded]) _ rfl [] rfl (bts z32).toArray (build_k0r _) ?_) | (refine step_eqK (by first | rfl | simp [Region.wanted, yielded]) .eql (.inl rfl) (.tmp 16) (.tmp 17) rfl ks z32 rfl rfl HK.out z32_len true (by rw [if_pos rfl]; exact HQ.out) ?_) | fail)
      go_ret
      exact ⟨ret_bool (by rw [HRES.out, HX.out]), HB1.out⟩
    · have HRES := Lib.hid (show rpB c n ks ps = goB c n 0 [z32, ks] ps from if_neg hz)
      have HQ := Lib.hid (show (ks == z32) = false by simp [hz])
      have HZ := Lib.hid hz
      clear hz
      go_enter Try.func51, Try.ntmps51
      go_upto_region 1 with fail
      change Code.wp _ _ _ _ (W.alloc (.cells (bts ks).toArray 31))
      rw [← HW1.out]
      go_wp2_with (first | (refine step_load big_key (by first | rfl | simp [Region.wanted, yielded]) (.tmp 7) rfl W.heap.size 0 rfl (bts ks) HLK.out (blk_range HG.out) ?_) | (refine step_build (t := 31) (by first | rfl | simp [Region.wanted, yielded]) _ rfl [] rfl (bts z32).toArray (build_k0r _) ?_) | (refine step_eqK (by first | rfl | simp [Region.wanted, yielded]) .eql (.inl rfl) (.tmp 16) (.tmp 17) rfl ks z32 rfl rfl HK.out z32_len false (by rw [if_pos rfl]; exact HQ.out) ?_) | fail)
      go_loopw [9] (fun i wr => ∃ (k : Nat) (t : Int), k ≤ ps.length ∧ i = .int .i64 k ∧ prevN ps k t ∧ goB c n 0 [z32, ks] ps = goB c n t ([z32, ks] ++ (ps.take k).map Pe.ks) (ps.drop k) ∧ Below w1.heap.size w1 wr) (fun i _ => ps.length - (intOf i).toNat)
      case atStart => exact ⟨0, 0, Nat.zero_le _, rfl, .inl ⟨rfl, rfl⟩, rfl, B0 _⟩
      case round =>
        obtain ⟨k, t, hk, rfl, hpv, hgo, hb⟩ := hrel
        obtain ⟨wv, rfl⟩ : ∃ wv, wv = wr := ⟨_, rfl⟩
        have HB := Lib.hid hb
        by_cases hlt : k < ps.length
        · have hlt' : (k : Int) < (ps.length : Int) := by omega
          have hk0 : (0 : Int) ≤ (k : Int) := by omega
          rw [goB_next hlt] at hgo
          have HRV := Lib.hid (HR.out.below hb (fun i hi => Nat.lt_of_lt_of_le (HS.out i hi) HB1.out.size))
          have HEV := Lib.hid (show ∀ p ∈ ps, PeAt wv S p from fun p hp => (HE.out p hp).below hb (fun i hi => Nat.lt_of_lt_of_le (HS.out i hi) HB1.out.size))
          have HSV := Lib.hid (show ∀ i, S i → i < wv.heap.size from fun i hi => Nat.lt_of_lt_of_le (HS.out i hi) (Nat.le_trans HB1.out.size hb.size))
          have HGV := Lib.hid (HG.out.later hb)
          obtain ⟨gp, op, hA, hgp, hra⟩ := row_at HRV.out (rowP_n HEV.out) hlt
          have HROW := Lib.hid (show ∀ j (hj : j < ps.length), wv.rangeAt gp (op + j * 36) (ps[j]).L from fun j hj => by
            obtain ⟨g', o', hA', _, h⟩ := row_at HRV.out (rowP_n HEV.out) hj
            rw [hA] at hA'
            injection hA' with hA'
            injection hA' with e1 e2
            subst e1 e2
            exact h)
          subst hA
          obtain ⟨p, hp⟩ : ∃ p, p = ps[k] := ⟨_, rfl⟩
          rw [← hp] at hra hgo
          have HP := Lib.hid hp
          have HPE := Lib.hid (show PeAt wv S p by rw [hp]; exact HEV.out _ (List.getElem_mem hlt))
          have HPL := Lib.hid (Pe.len HPE.out.k32)
          have HRA := Lib.hid hra
          have HGO := Lib.hid hgo
          have HF : Hid (peB c n t ([z32, ks] ++ (ps.take k).map Pe.ks) p = false → rpB c n ks ps = false) := Lib.hid (fun h => by rw [HRES.out, HGO.out, h]; rfl)
          have HGPV := Lib.hid (show gp < wv.heap.size from HSV.out gp hgp)
          clear hp hra hgo hb hgp
          go_upto_region 7 with (first | (refine step_load big_peer (by first | rfl | simp [Region.wanted, yielded]) (.tmp 28) rfl gp (op + k * 36) rfl p.L HPL.out HRA.out ?_) | (refine step_store big_peer rfl (.tmp 10) (.tmp 29) rfl wv.heap.size rfl p.L HPL.out p.one rfl 43 _ (Blk.new wv 43 _) rfl ?_; intro w3 hb3 hm3 hs3; have HP3 := Lib.hid hb3; have HM3 := Lib.hid hm3; clear hb3 hm3 hs3) | fail)
          have hb3 : Below wv.heap.size wv w3 := Bm (Ba (B0 wv) _) HM3.out (fun i hi => by omega)
          have HB3 := Lib.hid hb3
          have HG3 := Lib.hid (HGV.out.later hb3)
          have HPE3 := Lib.hid (HPE.out.below hb3 HSV.out)
          have HS3 := Lib.hid (show ∀ i, S i → i < w3.heap.size from fun i hi => Nat.lt_of_lt_of_le (HSV.out i hi) hb3.size)
          obtain ⟨x0, xk, x33, x34, x35⟩ := pe_cells (blk_range HP3.out) HPE.out.k32
          simp only [Nat.zero_add] at x0 xk x33 x34 x35
          have HXK := Lib.hid xk
          have HPK := Lib.hid HPE.out.k32
          have HLP := Lib.hid (show (bts p.ks).length = 32 by rw [bts_length]; exact HPE.out.k32)
          obtain ⟨nd, hnd⟩ : ∃ x, x = p.nd := ⟨_, rfl⟩
          obtain ⟨ex, hex⟩ : ∃ x, x = p.ex := ⟨_, rfl⟩
          rw [← hnd] at x0
          rw [← hex] at x33
          have HND := Lib.hid hnd
          have HEX := Lib.hid hex
          have HR3 := Lib.hid (show ∀ j (hj : j < ps.length), w3.rangeAt gp (op + j * 36) (ps[j]).L from fun j hj => range_below (HROW.out j hj) hb3 HGPV.out)
          have lw3 := HP3.out.lt
          clear hb3 xk hnd hex
          simp only [List.append_eq, List.cons_append, List.nil_append, Act.put, List.setIfInBounds_toArray, List.set_cons_zero, List.set_cons_succ]
          refine wp_region_quiet_lit (by kernel_rfl) (by kernel_rfl) ?_
          cases q1 : ndB nd
          · have HQ1 := Lib.hid q1
            iterate 2 (go_big_quiet_step (fail))
            go_big_quiet_step (exact qnode HQ1.out _ _)
            iterate 37 (go_big_quiet_step (fail))
            go_big_quiet_step (exact qnumber HQ6.out _ _)
            iterate 11 (go_big_quiet_step (fail))
            go_big_quiet_step (exact qspans HQ8.out _ _ HPE3.out.ri HS3.out)
            iterate 5 (go_big_quiet_step (fail))
            go_big_quiet_step (exact qspans HQ9.out _ _ HPE3.out.ro HS3.out)
            iterate 12 (go_big_quiet_step (fail))
            refine wpQuiet_nil ?_
            intro _ hw'
            obtain ⟨nq, hw''⟩ := hw'
            subst hw''
            go_wp2_with fail
            go_ret
            exact ⟨ret_bool (HF.out (by unfold peB; rw [← HND.out, q1]; simp)).symm, BdN (Bt HB1.out (Bt HB.out HB3.out)) _⟩
          · have HQ1 := Lib.hid q1
            have hnd1 := (ndB_le q1).1
            iterate 2 (go_big_quiet_step (fail))
            go_big_quiet_step (exact qnode HQ1.out _ _)
            iterate 2 (go_big_quiet_step (fail))
            rcases hpv with ⟨h00, rfl⟩ | ⟨j, hj, rfl, ht⟩
            · have hk00 : decide ((0 : Int) < (k : Int)) = false := by simp [h00]
              have hk01 : decide (0 < k) = false := by simp [h00]
              have H00 := Lib.hid h00
              clear h00
              by_cases q2 : nd = n
              · have q2' : (nd == n) = true := by simp [q2]
                clear q2
                iterate 35 (go_big_quiet_step (fail))
                go_big_quiet_step (exact qnumber HQ6.out _ _)
                iterate 11 (go_big_quiet_step (fail))
                go_big_quiet_step (exact qspans HQ8.out _ _ HPE3.out.ri HS3.out)
                iterate 5 (go_big_quiet_step (fail))
                go_big_quiet_step (exact qspans HQ9.out _ _ HPE3.out.ro HS3.out)
                iterate 12 (go_big_quiet_step (fail))
                refine wpQuiet_nil ?_
                intro _ hw'
                obtain ⟨nq, hw''⟩ := hw'
                subst hw''
                go_wp2_with fail
                go_ret
                exact ⟨ret_bool (HF.out (by unfold peB; rw [← HND.out, q2']; simp)).symm, BdN (Bt HB1.out (Bt HB.out HB3.out)) _⟩
              · have q2' : (nd == n) = false := by simp [q2]
                clear q2
                iterate 21 (go_big_quiet_step (fail))
                by_cases q4 : p.ks = ks
                · have HQ4 := Lib.hid (show (p.ks == ks) = true by simp [q4])
                  have HN4 := Lib.hid q4
                  clear q4
                  iterate 1 (go_big_quiet_step (fail))
                  refine q_load big_key (by first | rfl | simp [Region.wanted, yielded]) (.tmp 56) rfl wv.heap.size 1 rfl (bts p.ks) HLP.out HXK.out ?_; simp only [Act.put, List.setIfInBounds_toArray, List.set_cons_zero, List.set_cons_succ]
                  refine q_load big_key (by first | rfl | simp [Region.wanted, yielded]) (.tmp 7) rfl W.heap.size 0 rfl (bts ks) HLK.out (blk_range HG3.out) ?_; simp only [Act.put, List.setIfInBounds_toArray, List.set_cons_zero, List.set_cons_succ]
                  refine q_eqK (by first | rfl | simp [Region.wanted, yielded]) (.tmp 57) (.tmp 58) rfl p.ks ks rfl rfl HPK.out HK.out true HQ4.out ?_; simp only [Act.put, List.setIfInBounds_toArray, List.set_cons_zero, List.set_cons_succ]
                  iterate 10 (go_big_quiet_step (fail))
                  go_big_quiet_step (exact qnumber HQ6.out _ _)
                  iterate 11 (go_big_quiet_step (fail))
                  go_big_quiet_step (exact qspans HQ8.out _ _ HPE3.out.ri HS3.out)
                  iterate 5 (go_big_quiet_step (fail))
                  go_big_quiet_step (exact qspans HQ9.out _ _ HPE3.out.ro HS3.out)
                  iterate 12 (go_big_quiet_step (fail))
                  refine wpQuiet_nil ?_
                  intro _ hw'
                  obtain ⟨nq, hw''⟩ := hw'
                  subst hw''
                  go_wp2_with fail
                  go_ret
                  exact ⟨ret_bool (HF.out (by unfold peB; rw [show ([z32, ks] ++ (ps.take k).map Pe.ks).contains p.ks = true by simp [HN4.out]]; simp)).symm, BdN (Bt HB1.out (Bt HB.out HB3.out)) _⟩
                · have HQ4 := Lib.hid (show (p.ks == ks) = false by simp [q4])
                  have HN4 := Lib.hid q4
                  clear q4
                  iterate 1 (go_big_quiet_step (fail))
                  refine q_load big_key (by first | rfl | simp [Region.wanted, yielded]) (.tmp 56) rfl wv.heap.size 1 rfl (bts p.ks) HLP.out HXK.out ?_; simp only [Act.put, List.setIfInBounds_toArray, List.set_cons_zero, List.set_cons_succ]
                  refine q_load big_key (by first | rfl | simp [Region.wanted, yielded]) (.tmp 7) rfl W.heap.size 0 rfl (bts ks) HLK.out (blk_range HG3.out) ?_; simp only [Act.put, List.setIfInBounds_toArray, List.set_cons_zero, List.set_cons_succ]
                  refine q_eqK (by first | rfl | simp [Region.wanted, yielded]) (.tmp 57) (.tmp 58) rfl p.ks ks rfl rfl HPK.out HK.out false HQ4.out ?_; simp only [Act.put, List.setIfInBounds_toArray, List.set_cons_zero, List.set_cons_succ]
                  iterate 2 (go_big_quiet_step (fail))
                  by_cases q5 : p.ks = z32
                  · have HQ5 := Lib.hid (show (p.ks == z32) = true by simp [q5])
                    have HN5 := Lib.hid q5
                    clear q5
                    iterate 1 (go_big_quiet_step (fail))
                    refine q_load big_key (by first | rfl | simp [Region.wanted, yielded]) (.tmp 62) rfl wv.heap.size 1 rfl (bts p.ks) HLP.out HXK.out ?_; simp only [Act.put, List.setIfInBounds_toArray, List.set_cons_zero, List.set_cons_succ]
                    refine q_build (t := 31) (by first | rfl | simp [Region.wanted, yielded]) _ rfl [] rfl (bts z32).toArray build_k0r ?_; simp only [Act.put, List.setIfInBounds_toArray, List.set_cons_zero, List.set_cons_succ]
                    refine q_eqK (by first | rfl | simp [Region.wanted, yielded]) (.tmp 63) (.tmp 64) rfl p.ks z32 rfl rfl HPK.out z32_len true HQ5.out ?_; simp only [Act.put, List.setIfInBounds_toArray, List.set_cons_zero, List.set_cons_succ]
                    iterate 4 (go_big_quiet_step (fail))
                    go_big_quiet_step (exact qnumber HQ6.out _ _)
                    iterate 11 (go_big_quiet_step (fail))
                    go_big_quiet_step (exact qspans HQ8.out _ _ HPE3.out.ri HS3.out)
                    iterate 5 (go_big_quiet_step (fail))
                    go_big_quiet_step (exact qspans HQ9.out _ _ HPE3.out.ro HS3.out)
                    iterate 12 (go_big_quiet_step (fail))
                    refine wpQuiet_nil ?_
                    intro _ hw'
                    obtain ⟨nq, hw''⟩ := hw'
                    subst hw''
                    go_wp2_with fail
                    go_ret
                    exact ⟨ret_bool (HF.out (by unfold peB; rw [show ([z32, ks] ++ (ps.take k).map Pe.ks).contains p.ks = true by simp [HN5.out]]; simp)).symm, BdN (Bt HB1.out (Bt HB.out HB3.out)) _⟩
                  · have HQ5 := Lib.hid (show (p.ks == z32) = false by simp [q5])
                    have HN5 := Lib.hid q5
                    clear q5
                    iterate 1 (go_big_quiet_step (fail))
                    refine q_load big_key (by first | rfl | simp [Region.wanted, yielded]) (.tmp 62) rfl wv.heap.size 1 rfl (bts p.ks) HLP.out HXK.out ?_; simp only [Act.put, List.setIfInBounds_toArray, List.set_cons_zero, List.set_cons_succ]
                    refine q_build (t := 31) (by first | rfl | simp [Region.wanted, yielded]) _ rfl [] rfl (bts z32).toArray build_k0r ?_; simp only [Act.put, List.setIfInBounds_toArray, List.set_cons_zero, List.set_cons_succ]
                    refine q_eqK (by first | rfl | simp [Region.wanted, yielded]) (.tmp 63) (.tmp 64) rfl p.ks z32 rfl rfl HPK.out z32_len false HQ5.out ?_; simp only [Act.put, List.setIfInBounds_toArray, List.set_cons_zero, List.set_cons_succ]
                    iterate 2 (go_big_quiet_step (fail))
                    cases q6 : nuB ex
                    · have HQ6 := Lib.hid q6
                      iterate 2 (go_big_quiet_step (fail))
                      go_big_quiet_step (exact qnumber HQ6.out _ _)
                      iterate 11 (go_big_quiet_step (fail))
                      go_big_quiet_step (exact qspans HQ8.out _ _ HPE3.out.ri HS3.out)
                      iterate 5 (go_big_quiet_step (fail))
                      go_big_quiet_step (exact qspans HQ9.out _ _ HPE3.out.ro HS3.out)
                      iterate 12 (go_big_quiet_step (fail))
                      refine wpQuiet_nil ?_
                      intro _ hw'
                      obtain ⟨nq, hw''⟩ := hw'
                      subst hw''
                      go_wp2_with fail
                      go_ret
                      exact ⟨ret_bool (HF.out (by unfold peB; rw [← HEX.out, q6]; simp)).symm, BdN (Bt HB1.out (Bt HB.out HB3.out)) _⟩
                    · have HQ6 := Lib.hid q6
                      iterate 2 (go_big_quiet_step (fail))
                      go_big_quiet_step (exact qnumber HQ6.out _ _)
                      iterate 3 (go_big_quiet_step (fail))
                      by_cases q7 : ex ≤ c
                      · have q7' : decide (ex ≤ c) = true := decide_eq_true q7
                        iterate 8 (go_big_quiet_step (fail))
                        go_big_quiet_step (exact qspans HQ8.out _ _ HPE3.out.ri HS3.out)
                        iterate 5 (go_big_quiet_step (fail))
                        go_big_quiet_step (exact qspans HQ9.out _ _ HPE3.out.ro HS3.out)
                        iterate 12 (go_big_quiet_step (fail))
                        refine wpQuiet_nil ?_
                        intro _ hw'
                        obtain ⟨nq, hw''⟩ := hw'
                        subst hw''
                        go_wp2_with fail
                        go_ret
                        exact ⟨ret_bool (HF.out (by unfold peB; rw [← HEX.out, decide_eq_false (p := c < ex) (by omega)]; simp)).symm, BdN (Bt HB1.out (Bt HB.out HB3.out)) _⟩
                      · have q7' : decide (ex ≤ c) = false := decide_eq_false q7
                        iterate 6 (go_big_quiet_step (fail))
                        cases q8 : spB p.ins
                        · have HQ8 := Lib.hid q8
                          iterate 2 (go_big_quiet_step (fail))
                          go_big_quiet_step (exact qspans HQ8.out _ _ HPE3.out.ri HS3.out)
                          iterate 5 (go_big_quiet_step (fail))
                          go_big_quiet_step (exact qspans HQ9.out _ _ HPE3.out.ro HS3.out)
                          iterate 12 (go_big_quiet_step (fail))
                          refine wpQuiet_nil ?_
                          intro _ hw'
                          obtain ⟨nq, hw''⟩ := hw'
                          subst hw''
                          go_wp2_with fail
                          go_ret
                          exact ⟨ret_bool (HF.out (by unfold peB; rw [q8]; simp)).symm, BdN (Bt HB1.out (Bt HB.out HB3.out)) _⟩
                        · have HQ8 := Lib.hid q8
                          have hl8 := spB_len q8
                          iterate 2 (go_big_quiet_step (fail))
                          go_big_quiet_step (exact qspans HQ8.out _ _ HPE3.out.ri HS3.out)
                          iterate 3 (go_big_quiet_step (fail))
                          cases q9 : spB p.outs
                          · have HQ9 := Lib.hid q9
                            iterate 2 (go_big_quiet_step (fail))
                            go_big_quiet_step (exact qspans HQ9.out _ _ HPE3.out.ro HS3.out)
                            iterate 12 (go_big_quiet_step (fail))
                            refine wpQuiet_nil ?_
                            intro _ hw'
                            obtain ⟨nq, hw''⟩ := hw'
                            subst hw''
                            go_wp2_with fail
                            go_ret
                            exact ⟨ret_bool (HF.out (by unfold peB; rw [q9]; simp)).symm, BdN (Bt HB1.out (Bt HB.out HB3.out)) _⟩
                          · have HQ9 := Lib.hid q9
                            have hl9 := spB_len q9
                            iterate 2 (go_big_quiet_step (fail))
                            go_big_quiet_step (exact qspans HQ9.out _ _ HPE3.out.ro HS3.out)
                            iterate 3 (go_big_quiet_step (fail))
                            by_cases qt : p.ins.length + p.outs.length = 0
                            · have q10' : ((p.ins.length : Int) + (p.outs.length : Int) == 0) = true := by simp; omega
                              iterate 9 (go_big_quiet_step (fail))
                              refine wpQuiet_nil ?_
                              intro _ hw'
                              obtain ⟨nq, hw''⟩ := hw'
                              subst hw''
                              go_wp2_with fail
                              go_ret
                              exact ⟨ret_bool (HF.out (by unfold peB; rw [decide_eq_false (p := 0 < p.ins.length + p.outs.length) (by omega)]; simp)).symm, BdN (Bt HB1.out (Bt HB.out HB3.out)) _⟩
                            · have q10' : ((p.ins.length : Int) + (p.outs.length : Int) == 0) = false := by simp; omega
                              iterate 9 (go_big_quiet_step (fail))
                              refine wpQuiet_nil ?_
                              intro _ hw'
                              obtain ⟨nq, hw''⟩ := hw'
                              subst hw''
                              go_wp2_with fail
                              go_loopw [11] (fun i2 wr2 => ∃ (q : Nat), q ≤ k ∧ i2 = .int .i64 q ∧ (∀ i (hi : i < ps.length), i < q → (ps[i]).ks ≠ p.ks) ∧ ∃ m, wr2 = w3.drewN m) (fun i2 _ => k - (intOf i2).toNat)
                              case atStart => exact ⟨0, by omega, rfl, fun i _ h => absurd h (Nat.not_lt_zero _), nq, rfl⟩
                              case round =>
                                obtain ⟨q, hq, rfl, hne, m, rfl⟩ := hrel
                                have HNE := Lib.hid hne
                                clear hne
                                by_cases hqk : q < k
                                · have hqk' : (q : Int) < ((k : Nat) : Int) := by omega
                                  have hq0 : (0 : Int) ≤ (q : Int) := by omega
                                  have hql : q < ps.length := by omega
                                  have lgp3 : gp < w3.heap.size := Nat.lt_of_lt_of_le HGPV.out HB3.out.size
                                  obtain ⟨r, hr⟩ : ∃ r, r = ps[q] := ⟨_, rfl⟩
                                  have hrr := HR3.out q hql
                                  rw [← hr] at hrr
                                  have HRK := Lib.hid (show r.ks.length = 32 by rw [hr]; exact (HEV.out _ (List.getElem_mem hql)).k32)
                                  have HXR := Lib.hid (pe_cells hrr HRK.out).2.1
                                  have HLR := Lib.hid (show (bts r.ks).length = 32 by rw [bts_length]; exact HRK.out)
                                  have HRR := Lib.hid hr
                                  clear hrr hr
                                  by_cases e : r.ks = p.ks
                                  · have HC := Lib.hid (show (r.ks == p.ks) = true by simp [e])
                                    have HEE := Lib.hid e
                                    clear e
                                    go_wp2_with fail
                                    refine wp_region_quiet_lit (by kernel_rfl) (by kernel_rfl) ?_
                                    iterate 4 (go_big_quiet_step (fail))
                                    refine q_load big_key (by first | rfl | simp [Region.wanted, yielded]) (.tmp 109) rfl gp (op + q * 36 + 1) rfl (bts r.ks) HLR.out HXR.out ?_; simp only [Act.put, List.setIfInBounds_toArray, List.set_cons_zero, List.set_cons_succ]
                                    iterate 1 (go_big_quiet_step (fail))
                                    refine q_load big_key (by first | rfl | simp [Region.wanted, yielded]) (.tmp 111) rfl wv.heap.size 1 rfl (bts p.ks) HLP.out HXK.out ?_; simp only [Act.put, List.setIfInBounds_toArray, List.set_cons_zero, List.set_cons_succ]
                                    refine q_eqK (by first | rfl | simp [Region.wanted, yielded]) (.tmp 110) (.tmp 112) rfl r.ks p.ks rfl rfl HRK.out HPK.out true HC.out ?_; simp only [Act.put, List.setIfInBounds_toArray, List.set_cons_zero, List.set_cons_succ]
                                    refine wpQuiet_nil ?_
                                    intro _ hw'
                                    obtain ⟨n2, hw''⟩ := hw'
                                    subst hw''
                                    go_wp2_with fail
                                    go_ret
                                    exact ⟨ret_bool (HF.out (by unfold peB; rw [mem_keys hql hqk (by rw [← HRR.out]; exact HEE.out)]; simp)).symm, BdN (BdN (Bt HB1.out (Bt HB.out HB3.out)) _) _⟩
                                  · have HC := Lib.hid (show (r.ks == p.ks) = false by simp [e])
                                    have HEE := Lib.hid e
                                    clear e
                                    go_wp2_with fail
                                    refine wp_region_quiet_lit (by kernel_rfl) (by kernel_rfl) ?_
                                    iterate 4 (go_big_quiet_step (fail))
                                    refine q_load big_key (by first | rfl | simp [Region.wanted, yielded]) (.tmp 109) rfl gp (op + q * 36 + 1) rfl (bts r.ks) HLR.out HXR.out ?_; simp only [Act.put, List.setIfInBounds_toArray, List.set_cons_zero, List.set_cons_succ]
                                    iterate 1 (go_big_quiet_step (fail))
                                    refine q_load big_key (by first | rfl | simp [Region.wanted, yielded]) (.tmp 111) rfl wv.heap.size 1 rfl (bts p.ks) HLP.out HXK.out ?_; simp only [Act.put, List.setIfInBounds_toArray, List.set_cons_zero, List.set_cons_succ]
                                    refine q_eqK (by first | rfl | simp [Region.wanted, yielded]) (.tmp 110) (.tmp 112) rfl r.ks p.ks rfl rfl HRK.out HPK.out false HC.out ?_; simp only [Act.put, List.setIfInBounds_toArray, List.set_cons_zero, List.set_cons_succ]
                                    refine wpQuiet_nil ?_
                                    intro _ hw'
                                    obtain ⟨n2, hw''⟩ := hw'
                                    subst hw''
                                    go_wp2_with fail
                                    go_roundw
                                    case rel =>
                                      refine ⟨q + 1, by omega, by go_num, fun i hi hiq => ?_, _, rfl⟩
                                      by_cases h : i = q
                                      · subst h; rw [← HRR.out]; exact HEE.out
                                      · exact HNE.out i hi (by omega)
                                    case measure => simp [intOf]; omega
                                · obtain rfl : q = k := by omega
                                  have hpe : peB c n 0 ([z32, ks] ++ (ps.take q).map Pe.ks) p = true := by
                                    unfold peB
                                    rw [← HND.out, ← HEX.out, decide_eq_true (p := 0 < nd) (by omega), HQ1.out, q2', not_mem_keys HN5.out HN4.out HNE.out, HQ6.out, decide_eq_true (p := c < ex) (by omega), HQ8.out, HQ9.out, decide_eq_true (p := 0 < p.ins.length + p.outs.length) (by omega)]
                                    rfl
                                  have HPB := Lib.hid hpe
                                  clear hpe
                                  go_wp2_with fail
                                  go_roundw
                                  case rel => exact ⟨q + 1, p.nd, by omega, by go_num, .inr ⟨q, hlt, rfl, congrArg Pe.nd HP.out⟩, by rw [HGO.out, HPB.out, List.take_succ_eq_append_getElem hlt, List.map_append, HP.out]; simp, BdN (Bt HB.out HB3.out) _⟩
                                  case measure => simp [intOf]; omega
            · have xp := (pe_cells (HR3.out j hj) (HEV.out _ (List.getElem_mem hj)).k32).1
              rw [← ht] at xp
              have hk00 : decide ((0 : Int) < ((j + 1 : Nat) : Int)) = true := by simp
              have lgp : gp < w3.heap.size := Nat.lt_of_lt_of_le HGPV.out HB3.out.size
              have HTT := Lib.hid ht
              clear ht
              by_cases q2 : nd = n
              · have q2' : (nd == n) = true := by simp [q2]
                clear q2
                iterate 35 (go_big_quiet_step (fail))
                go_big_quiet_step (exact qnumber HQ6.out _ _)
                iterate 11 (go_big_quiet_step (fail))
                go_big_quiet_step (exact qspans HQ8.out _ _ HPE3.out.ri HS3.out)
                iterate 5 (go_big_quiet_step (fail))
                go_big_quiet_step (exact qspans HQ9.out _ _ HPE3.out.ro HS3.out)
                iterate 12 (go_big_quiet_step (fail))
                refine wpQuiet_nil ?_
                intro _ hw'
                obtain ⟨nq, hw''⟩ := hw'
                subst hw''
                go_wp2_with fail
                go_ret
                exact ⟨ret_bool (HF.out (by unfold peB; rw [← HND.out, q2']; simp)).symm, BdN (Bt HB1.out (Bt HB.out HB3.out)) _⟩
              · have q2' : (nd == n) = false := by simp [q2]
                clear q2
                iterate 6 (go_big_quiet_step (fail))
                by_cases q3 : nd ≤ t
                · have q3' : decide (nd ≤ t) = true := decide_eq_true q3
                  iterate 29 (go_big_quiet_step (fail))
                  go_big_quiet_step (exact qnumber HQ6.out _ _)
                  iterate 11 (go_big_quiet_step (fail))
                  go_big_quiet_step (exact qspans HQ8.out _ _ HPE3.out.ri HS3.out)
                  iterate 5 (go_big_quiet_step (fail))
                  go_big_quiet_step (exact qspans HQ9.out _ _ HPE3.out.ro HS3.out)
                  iterate 12 (go_big_quiet_step (fail))
                  refine wpQuiet_nil ?_
                  intro _ hw'
                  obtain ⟨nq, hw''⟩ := hw'
                  subst hw''
                  go_wp2_with fail
                  go_ret
                  exact ⟨ret_bool (HF.out (by unfold peB; rw [← HND.out, decide_eq_false (p := t < nd) (by omega)]; simp)).symm, BdN (Bt HB1.out (Bt HB.out HB3.out)) _⟩
                · have q3' : decide (nd ≤ t) = false := decide_eq_false q3
                  iterate 15 (go_big_quiet_step (fail))
                  by_cases q4 : p.ks = ks
                  · have HQ4 := Lib.hid (show (p.ks == ks) = true by simp [q4])
                    have HN4 := Lib.hid q4
                    clear q4
                    iterate 1 (go_big_quiet_step (fail))
                    refine q_load big_key (by first | rfl | simp [Region.wanted, yielded]) (.tmp 56) rfl wv.heap.size 1 rfl (bts p.ks) HLP.out HXK.out ?_; simp only [Act.put, List.setIfInBounds_toArray, List.set_cons_zero, List.set_cons_succ]
                    refine q_load big_key (by first | rfl | simp [Region.wanted, yielded]) (.tmp 7) rfl W.heap.size 0 rfl (bts ks) HLK.out (blk_range HG3.out) ?_; simp only [Act.put, List.setIfInBounds_toArray, List.set_cons_zero, List.set_cons_succ]
                    refine q_eqK (by first | rfl | simp [Region.wanted, yielded]) (.tmp 57) (.tmp 58) rfl p.ks ks rfl rfl HPK.out HK.out true HQ4.out ?_; simp only [Act.put, List.setIfInBounds_toArray, List.set_cons_zero, List.set_cons_succ]
                    iterate 10 (go_big_quiet_step (fail))
                    go_big_quiet_step (exact qnumber HQ6.out _ _)
                    iterate 11 (go_big_quiet_step (fail))
                    go_big_quiet_step (exact qspans HQ8.out _ _ HPE3.out.ri HS3.out)
                    iterate 5 (go_big_quiet_step (fail))
                    go_big_quiet_step (exact qspans HQ9.out _ _ HPE3.out.ro HS3.out)
                    iterate 12 (go_big_quiet_step (fail))
                    refine wpQuiet_nil ?_
                    intro _ hw'
                    obtain ⟨nq, hw''⟩ := hw'
                    subst hw''
                    go_wp2_with fail
                    go_ret
                    exact ⟨ret_bool (HF.out (by unfold peB; rw [show ([z32, ks] ++ (ps.take (j + 1)).map Pe.ks).contains p.ks = true by simp [HN4.out]]; simp)).symm, BdN (Bt HB1.out (Bt HB.out HB3.out)) _⟩
                  · have HQ4 := Lib.hid (show (p.ks == ks) = false by simp [q4])
                    have HN4 := Lib.hid q4
                    clear q4
                    iterate 1 (go_big_quiet_step (fail))
                    refine q_load big_key (by first | rfl | simp [Region.wanted, yielded]) (.tmp 56) rfl wv.heap.size 1 rfl (bts p.ks) HLP.out HXK.out ?_; simp only [Act.put, List.setIfInBounds_toArray, List.set_cons_zero, List.set_cons_succ]
                    refine q_load big_key (by first | rfl | simp [Region.wanted, yielded]) (.tmp 7) rfl W.heap.size 0 rfl (bts ks) HLK.out (blk_range HG3.out) ?_; simp only [Act.put, List.setIfInBounds_toArray, List.set_cons_zero, List.set_cons_succ]
                    refine q_eqK (by first | rfl | simp [Region.wanted, yielded]) (.tmp 57) (.tmp 58) rfl p.ks ks rfl rfl HPK.out HK.out false HQ4.out ?_; simp only [Act.put, List.setIfInBounds_toArray, List.set_cons_zero, List.set_cons_succ]
                    iterate 2 (go_big_quiet_step (fail))
                    by_cases q5 : p.ks = z32
                    · have HQ5 := Lib.hid (show (p.ks == z32) = true by simp [q5])
                      have HN5 := Lib.hid q5
                      clear q5
                      iterate 1 (go_big_quiet_step (fail))
                      refine q_load big_key (by first | rfl | simp [Region.wanted, yielded]) (.tmp 62) rfl wv.heap.size 1 rfl (bts p.ks) HLP.out HXK.out ?_; simp only [Act.put, List.setIfInBounds_toArray, List.set_cons_zero, List.set_cons_succ]
                      refine q_build (t := 31) (by first | rfl | simp [Region.wanted, yielded]) _ rfl [] rfl (bts z32).toArray build_k0r ?_; simp only [Act.put, List.setIfInBounds_toArray, List.set_cons_zero, List.set_cons_succ]
                      refine q_eqK (by first | rfl | simp [Region.wanted, yielded]) (.tmp 63) (.tmp 64) rfl p.ks z32 rfl rfl HPK.out z32_len true HQ5.out ?_; simp only [Act.put, List.setIfInBounds_toArray, List.set_cons_zero, List.set_cons_succ]
                      iterate 4 (go_big_quiet_step (fail))
                      go_big_quiet_step (exact qnumber HQ6.out _ _)
                      iterate 11 (go_big_quiet_step (fail))
                      go_big_quiet_step (exact qspans HQ8.out _ _ HPE3.out.ri HS3.out)
                      iterate 5 (go_big_quiet_step (fail))
                      go_big_quiet_step (exact qspans HQ9.out _ _ HPE3.out.ro HS3.out)
                      iterate 12 (go_big_quiet_step (fail))
                      refine wpQuiet_nil ?_
                      intro _ hw'
                      obtain ⟨nq, hw''⟩ := hw'
                      subst hw''
                      go_wp2_with fail
                      go_ret
                      exact ⟨ret_bool (HF.out (by unfold peB; rw [show ([z32, ks] ++ (ps.take (j + 1)).map Pe.ks).contains p.ks = true by simp [HN5.out]]; simp)).symm, BdN (Bt HB1.out (Bt HB.out HB3.out)) _⟩
                    · have HQ5 := Lib.hid (show (p.ks == z32) = false by simp [q5])
                      have HN5 := Lib.hid q5
                      clear q5
                      iterate 1 (go_big_quiet_step (fail))
                      refine q_load big_key (by first | rfl | simp [Region.wanted, yielded]) (.tmp 62) rfl wv.heap.size 1 rfl (bts p.ks) HLP.out HXK.out ?_; simp only [Act.put, List.setIfInBounds_toArray, List.set_cons_zero, List.set_cons_succ]
                      refine q_build (t := 31) (by first | rfl | simp [Region.wanted, yielded]) _ rfl [] rfl (bts z32).toArray build_k0r ?_; simp only [Act.put, List.setIfInBounds_toArray, List.set_cons_zero, List.set_cons_succ]
                      refine q_eqK (by first | rfl | simp [Region.wanted, yielded]) (.tmp 63) (.tmp 64) rfl p.ks z32 rfl rfl HPK.out z32_len false HQ5.out ?_; simp only [Act.put, List.setIfInBounds_toArray, List.set_cons_zero, List.set_cons_succ]
                      iterate 2 (go_big_quiet_step (fail))
                      cases q6 : nuB ex
                      · have HQ6 := Lib.hid q6
                        iterate 2 (go_big_quiet_step (fail))
                        go_big_quiet_step (exact qnumber HQ6.out _ _)
                        iterate 11 (go_big_quiet_step (fail))
                        go_big_quiet_step (exact qspans HQ8.out _ _ HPE3.out.ri HS3.out)
                        iterate 5 (go_big_quiet_step (fail))
                        go_big_quiet_step (exact qspans HQ9.out _ _ HPE3.out.ro HS3.out)
                        iterate 12 (go_big_quiet_step (fail))
                        refine wpQuiet_nil ?_
                        intro _ hw'
                        obtain ⟨nq, hw''⟩ := hw'
                        subst hw''
                        go_wp2_with fail
                        go_ret
                        exact ⟨ret_bool (HF.out (by unfold peB; rw [← HEX.out, q6]; simp)).symm, BdN (Bt HB1.out (Bt HB.out HB3.out)) _⟩
                      · have HQ6 := Lib.hid q6
                        iterate 2 (go_big_quiet_step (fail))
                        go_big_quiet_step (exact qnumber HQ6.out _ _)
                        iterate 3 (go_big_quiet_step (fail))
                        by_cases q7 : ex ≤ c
                        · have q7' : decide (ex ≤ c) = true := decide_eq_true q7
                          iterate 8 (go_big_quiet_step (fail))
                          go_big_quiet_step (exact qspans HQ8.out _ _ HPE3.out.ri HS3.out)
                          iterate 5 (go_big_quiet_step (fail))
                          go_big_quiet_step (exact qspans HQ9.out _ _ HPE3.out.ro HS3.out)
                          iterate 12 (go_big_quiet_step (fail))
                          refine wpQuiet_nil ?_
                          intro _ hw'
                          obtain ⟨nq, hw''⟩ := hw'
                          subst hw''
                          go_wp2_with fail
                          go_ret
                          exact ⟨ret_bool (HF.out (by unfold peB; rw [← HEX.out, decide_eq_false (p := c < ex) (by omega)]; simp)).symm, BdN (Bt HB1.out (Bt HB.out HB3.out)) _⟩
                        · have q7' : decide (ex ≤ c) = false := decide_eq_false q7
                          iterate 6 (go_big_quiet_step (fail))
                          cases q8 : spB p.ins
                          · have HQ8 := Lib.hid q8
                            iterate 2 (go_big_quiet_step (fail))
                            go_big_quiet_step (exact qspans HQ8.out _ _ HPE3.out.ri HS3.out)
                            iterate 5 (go_big_quiet_step (fail))
                            go_big_quiet_step (exact qspans HQ9.out _ _ HPE3.out.ro HS3.out)
                            iterate 12 (go_big_quiet_step (fail))
                            refine wpQuiet_nil ?_
                            intro _ hw'
                            obtain ⟨nq, hw''⟩ := hw'
                            subst hw''
                            go_wp2_with fail
                            go_ret
                            exact ⟨ret_bool (HF.out (by unfold peB; rw [q8]; simp)).symm, BdN (Bt HB1.out (Bt HB.out HB3.out)) _⟩
                          · have HQ8 := Lib.hid q8
                            have hl8 := spB_len q8
                            iterate 2 (go_big_quiet_step (fail))
                            go_big_quiet_step (exact qspans HQ8.out _ _ HPE3.out.ri HS3.out)
                            iterate 3 (go_big_quiet_step (fail))
                            cases q9 : spB p.outs
                            · have HQ9 := Lib.hid q9
                              iterate 2 (go_big_quiet_step (fail))
                              go_big_quiet_step (exact qspans HQ9.out _ _ HPE3.out.ro HS3.out)
                              iterate 12 (go_big_quiet_step (fail))
                              refine wpQuiet_nil ?_
                              intro _ hw'
                              obtain ⟨nq, hw''⟩ := hw'
                              subst hw''
                              go_wp2_with fail
                              go_ret
                              exact ⟨ret_bool (HF.out (by unfold peB; rw [q9]; simp)).symm, BdN (Bt HB1.out (Bt HB.out HB3.out)) _⟩
                            · have HQ9 := Lib.hid q9
                              have hl9 := spB_len q9
                              iterate 2 (go_big_quiet_step (fail))
                              go_big_quiet_step (exact qspans HQ9.out _ _ HPE3.out.ro HS3.out)
                              iterate 3 (go_big_quiet_step (fail))
                              by_cases qt : p.ins.length + p.outs.length = 0
                              · have q10' : ((p.ins.length : Int) + (p.outs.length : Int) == 0) = true := by simp; omega
                                iterate 9 (go_big_quiet_step (fail))
                                refine wpQuiet_nil ?_
                                intro _ hw'
                                obtain ⟨nq, hw''⟩ := hw'
                                subst hw''
                                go_wp2_with fail
                                go_ret
                                exact ⟨ret_bool (HF.out (by unfold peB; rw [decide_eq_false (p := 0 < p.ins.length + p.outs.length) (by omega)]; simp)).symm, BdN (Bt HB1.out (Bt HB.out HB3.out)) _⟩
                              · have q10' : ((p.ins.length : Int) + (p.outs.length : Int) == 0) = false := by simp; omega
                                iterate 9 (go_big_quiet_step (fail))
                                refine wpQuiet_nil ?_
                                intro _ hw'
                                obtain ⟨nq, hw''⟩ := hw'
                                subst hw''
                                go_wp2_with fail
                                go_loopw [11] (fun i2 wr2 => ∃ (q : Nat), q ≤ (j + 1) ∧ i2 = .int .i64 q ∧ (∀ i (hi : i < ps.length), i < q → (ps[i]).ks ≠ p.ks) ∧ ∃ m, wr2 = w3.drewN m) (fun i2 _ => (j + 1) - (intOf i2).toNat)
                                case atStart => exact ⟨0, by omega, rfl, fun i _ h => absurd h (Nat.not_lt_zero _), nq, rfl⟩
                                case round =>
                                  obtain ⟨q, hq, rfl, hne, m, rfl⟩ := hrel
                                  have HNE := Lib.hid hne
                                  clear hne
                                  by_cases hqk : q < (j + 1)
                                  · have hqk' : (q : Int) < (((j + 1) : Nat) : Int) := by omega
                                    have hq0 : (0 : Int) ≤ (q : Int) := by omega
                                    have hql : q < ps.length := by omega
                                    have lgp3 : gp < w3.heap.size := Nat.lt_of_lt_of_le HGPV.out HB3.out.size
                                    obtain ⟨r, hr⟩ : ∃ r, r = ps[q] := ⟨_, rfl⟩
                                    have hrr := HR3.out q hql
                                    rw [← hr] at hrr
                                    have HRK := Lib.hid (show r.ks.length = 32 by rw [hr]; exact (HEV.out _ (List.getElem_mem hql)).k32)
                                    have HXR := Lib.hid (pe_cells hrr HRK.out).2.1
                                    have HLR := Lib.hid (show (bts r.ks).length = 32 by rw [bts_length]; exact HRK.out)
                                    have HRR := Lib.hid hr
                                    clear hrr hr
                                    by_cases e : r.ks = p.ks
                                    · have HC := Lib.hid (show (r.ks == p.ks) = true by simp [e])
                                      have HEE := Lib.hid e
                                      clear e
                                      go_wp2_with fail
                                      refine wp_region_quiet_lit (by kernel_rfl) (by kernel_rfl) ?_
                                      iterate 4 (go_big_quiet_step (fail))
                                      refine q_load big_key (by first | rfl | simp [Region.wanted, yielded]) (.tmp 109) rfl gp (op + q * 36 + 1) rfl (bts r.ks) HLR.out HXR.out ?_; simp only [Act.put, List.setIfInBounds_toArray, List.set_cons_zero, List.set_cons_succ]
                                      iterate 1 (go_big_quiet_step (fail))
                                      refine q_load big_key (by first | rfl | simp [Region.wanted, yielded]) (.tmp 111) rfl wv.heap.size 1 rfl (bts p.ks) HLP.out HXK.out ?_; simp only [Act.put, List.setIfInBounds_toArray, List.set_cons_zero, List.set_cons_succ]
                                      refine q_eqK (by first | rfl | simp [Region.wanted, yielded]) (.tmp 110) (.tmp 112) rfl r.ks p.ks rfl rfl HRK.out HPK.out true HC.out ?_; simp only [Act.put, List.setIfInBounds_toArray, List.set_cons_zero, List.set_cons_succ]
                                      refine wpQuiet_nil ?_
                                      intro _ hw'
                                      obtain ⟨n2, hw''⟩ := hw'
                                      subst hw''
                                      go_wp2_with fail
                                      go_ret
                                      exact ⟨ret_bool (HF.out (by unfold peB; rw [mem_keys hql hqk (by rw [← HRR.out]; exact HEE.out)]; simp)).symm, BdN (BdN (Bt HB1.out (Bt HB.out HB3.out)) _) _⟩
                                    · have HC := Lib.hid (show (r.ks == p.ks) = false by simp [e])
                                      have HEE := Lib.hid e
                                      clear e
                                      go_wp2_with fail
                                      refine wp_region_quiet_lit (by kernel_rfl) (by kernel_rfl) ?_
                                      iterate 4 (go_big_quiet_step (fail))
                                      refine q_load big_key (by first | rfl | simp [Region.wanted, yielded]) (.tmp 109) rfl gp (op + q * 36 + 1) rfl (bts r.ks) HLR.out HXR.out ?_; simp only [Act.put, List.setIfInBounds_toArray, List.set_cons_zero, List.set_cons_succ]
                                      iterate 1 (go_big_quiet_step (fail))
                                      refine q_load big_key (by first | rfl | simp [Region.wanted, yielded]) (.tmp 111) rfl wv.heap.size 1 rfl (bts p.ks) HLP.out HXK.out ?_; simp only [Act.put, List.setIfInBounds_toArray, List.set_cons_zero, List.set_cons_succ]
                                      refine q_eqK (by first | rfl | simp [Region.wanted, yielded]) (.tmp 110) (.tmp 112) rfl r.ks p.ks rfl rfl HRK.out HPK.out false HC.out ?_; simp only [Act.put, List.setIfInBounds_toArray, List.set_cons_zero, List.set_cons_succ]
                                      refine wpQuiet_nil ?_
                                      intro _ hw'
                                      obtain ⟨n2, hw''⟩ := hw'
                                      subst hw''
                                      go_wp2_with fail
                                      go_roundw
                                      case rel =>
                                        refine ⟨q + 1, by omega, by go_num, fun i hi hiq => ?_, _, rfl⟩
                                        by_cases h : i = q
                                        · subst h; rw [← HRR.out]; exact HEE.out
                                        · exact HNE.out i hi (by omega)
                                      case measure => simp [intOf]; omega
                                  · obtain rfl : q = (j + 1) := by omega
                                    have hpe : peB c n t ([z32, ks] ++ (ps.take (j + 1)).map Pe.ks) p = true := by
                                      unfold peB
                                      rw [← HND.out, ← HEX.out, decide_eq_true (p := t < nd) (by omega), HQ1.out, q2', not_mem_keys HN5.out HN4.out HNE.out, HQ6.out, decide_eq_true (p := c < ex) (by omega), HQ8.out, HQ9.out, decide_eq_true (p := 0 < p.ins.length + p.outs.length) (by omega)]
                                      rfl
                                    have HPB := Lib.hid hpe
                                    clear hpe
                                    go_wp2_with fail
                                    go_roundw
                                    case rel => exact ⟨j + 1 + 1, p.nd, by omega, by go_num, .inr ⟨(j + 1), hlt, rfl, congrArg Pe.nd HP.out⟩, by rw [HGO.out, HPB.out, List.take_succ_eq_append_getElem hlt, List.map_append, HP.out]; simp, BdN (Bt HB.out HB3.out) _⟩
                                    case measure => simp [intOf]; omega
        · obtain rfl : k = ps.length := by omega
          have HT : Hid (rpB c n ks ps = true) := Lib.hid (by rw [HRES.out, hgo, List.drop_of_length_le (Nat.le_refl _)]; rfl)
          clear hgo hpv hb
          go_wp2_with fail
          go_ret
          exact ⟨ret_bool HT.out.symm, Bt HB1.out HB.out⟩
end Go.Proofs.Ytgmndppjdnpejaa
