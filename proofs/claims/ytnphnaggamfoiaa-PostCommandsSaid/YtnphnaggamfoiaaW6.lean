/- Walks: the reader's Get. -/
import Derived.Test.YtnphnaggamfoiaaW5
namespace Go.Proofs.Ytnphnaggamfoiaa.Wr
open Go.RowKit
set_option linter.unusedVariables false
set_option maxRecDepth 20000
set_option linter.unusedSimpArgs false

theorem step_copy_at {P : Program} {w : World} {ops : Array Oper} {o : Oper} {a : Act} {K : Act → World → Prop} {Q : Exit → Act → World → Prop} {E : Prop} (hgd : o.guard = none) (d s : Operand) (dT sT : TypeId)
    (ho : o.op = .call { callee := .builtin .copy, args := #[d, s], argTypes := #[dT, sT] }) (elem : TypeId) (hu : P.underlying dT = some (.slice elem)) (hsz : (P.info? elem).map (·.size) = some 1)
    (g off dLen dCap sLen sCap : Nat) (A : Option Addr) (hd : a.eval d = .slice (some ⟨g, off, none⟩) dLen dCap) (hs : a.eval s = .slice A sLen sCap) (cur : Array Value) (t : TypeId) (hg : Blk w g t cur)
    (S : Nat → Prop) (l1 l2 : List Value) (hr : Rd w S 1 (.slice A sLen sCap) sLen (l1 ++ l2)) (h1 : ∀ v ∈ l1, v.oneCell' = true) (hl : l1.length = dLen) (hpos : 0 < dLen) (hfit : off + dLen ≤ cur.size)
    (h : ∀ w', Blk w' g t (cur.toList.take off ++ (l1 ++ cur.toList.drop (off + dLen))).toArray → Mod (fun k => k = g) w w' → K (a.put o.dst (goInt dLen)) w') :
    if Region.wanted o (yielded ops a.tmps) = true then Oper.wp P o a w K Q else E := by
  have hw : Region.wanted o (yielded ops a.tmps) = true := by simp [Region.wanted, hgd]
  rw [if_pos hw]
  have hlen : l1.length + l2.length = sLen := by have := hr.1; simpa using this
  obtain ⟨gs, os, rfl, _, hc⟩ := hr.some_ (by omega)
  have hrun := run_copy_row (P := P) w dT sT o.type elem g off dLen dCap ⟨gs, os, none⟩ sLen sCap cur t l1 hu hsz hg (by have : Nat.min sLen dLen = dLen := Nat.min_eq_right (by omega); omega) (fun j v hj => by rw [addr_add]; exact hc j v (by rw [List.getElem?_append_left (List.getElem?_eq_some_iff.1 hj).1]; exact hj)) (by omega) h1
  replace h := h _ (hg.setRow _) ((Mod.refl (fun k => k = g) w).setRow (.inl rfl) _)
  rw [← hl] at h
  unfold Oper.wp
  simp [execOp, ho, resolve, invoke, builtin, hd, hs, hrun, Result.andThen]
  exact h

theorem num_zeros (k : Nat) (l : List Int) : num (List.replicate k 0 ++ l) = num l := by
  induction k with
  | zero => rfl
  | succ k ih => simpa [num, List.replicate_succ] using ih
theorem byt_zeros (k : Nat) (l : List Int) (h : Byt l) : Byt (List.replicate k 0 ++ l) := by
  intro x hx
  rcases List.mem_append.1 hx with h' | h'
  · obtain ⟨_, rfl⟩ := List.mem_replicate.1 h'; omega
  · exact h x h'

theorem zeros_part (k n : Nat) (zs : List Int) (hkn : k + n = 8) : ((#[.int .u8 0, .int .u8 0, .int .u8 0, .int .u8 0, .int .u8 0, .int .u8 0, .int .u8 0, .int .u8 0] : Array Value).toList.take k ++ (bts zs ++ (#[.int .u8 0, .int .u8 0, .int .u8 0, .int .u8 0, .int .u8 0, .int .u8 0, .int .u8 0, .int .u8 0] : Array Value).toList.drop (k + n))) = bts (List.replicate k 0 ++ zs) := by
  have e : (#[.int .u8 0, .int .u8 0, .int .u8 0, .int .u8 0, .int .u8 0, .int .u8 0, .int .u8 0, .int .u8 0] : Array Value).toList = List.replicate 8 (.int .u8 0) := rfl
  rw [e, hkn, List.take_replicate, Nat.min_eq_left (by omega), bts_append]
  simp [bts]
theorem eight (l : List Int) (h : l.length = 8) : ∃ c0 c1 c2 c3 c4 c5 c6 c7, l = [c0, c1, c2, c3, c4, c5, c6, c7] := by
  match l, h with
  | [c0, c1, c2, c3, c4, c5, c6, c7], _ => exact ⟨_, _, _, _, _, _, _, _, rfl⟩
theorem blk8 {w : World} {g : Nat} {t : TypeId} {a0 a1 a2 a3 a4 a5 a6 a7 : Value} (h : Blk w g t #[a0, a1, a2, a3, a4, a5, a6, a7]) :
    w.cell? ⟨g, 0, none⟩ = some a0 ∧ w.cell? ⟨g, 1, none⟩ = some a1 ∧ w.cell? ⟨g, 2, none⟩ = some a2 ∧ w.cell? ⟨g, 3, none⟩ = some a3 ∧ w.cell? ⟨g, 4, none⟩ = some a4 ∧ w.cell? ⟨g, 5, none⟩ = some a5 ∧ w.cell? ⟨g, 6, none⟩ = some a6 ∧ w.cell? ⟨g, 7, none⟩ = some a7 :=
  ⟨h.cell 0, h.cell 1, h.cell 2, h.cell 3, h.cell 4, h.cell 5, h.cell 6, h.cell 7⟩

/-- Behind a call to a reader: what it answers, what is left. -/
def RDid (S : Nat → Prop) (p : Nat) (ys : List Int) (w w' : World) : Prop := Mod S w w' ∧ RdAt w' S p ys

/-- The reader's number of bytes that were read turns. -/
theorem RdOf.moved {S : Nat → Prop} {p s c : Nat} {A : Option Addr} {pre ys pre' ys' : List Int} {W : World} (h : RdOf W S p s A c pre ys) (e : pre ++ ys = pre' ++ ys') (x : Int) (hx : x = pre'.length) : RdOf (W.setCell ⟨s, 1, none⟩ (.int .i64 x)) S p s A c pre' ys' := by
  obtain ⟨h1, hl, h2, h3, h4, h5, h6, h7⟩ := h
  have hps : p ≠ s := h4.ne_ h5 (by decide)
  have hs2 : (Value.slice A (pre.length + ys.length) c).ownBlock ≠ some s := own_ne_blk h6 h5 (by decide)
  have el : pre.length + ys.length = pre'.length + ys'.length := by have := congrArg List.length e; simpa using this
  refine ⟨fun i hi => by simpa using h1 i hi, by rw [← el]; exact hl, h2, h3, h4.far hps _, ?_, ?_, ?_⟩
  · rw [← el, ← hx]
    exact h5.set2b _
  · rw [← el, ← e]
    exact own_mod h6 ((Mod.refl (fun k => k = s) W).setCell (.inl rfl) _) (fun k hk he => by subst he; exact hs2 hk) (Nat.le_refl _)
  · rw [← el]; exact h7
theorem RdOf.mod_ {S : Nat → Prop} {p s c : Nat} {A : Option Addr} {pre ys : List Int} {w W : World} (h : RdOf w S p s A c pre ys) (hb : Below w.heap.size w W) (x : Value) : Mod S w (W.setCell ⟨s, 1, none⟩ x) :=
  (Mod.of_below hb).setCell (.inl h.2.2.2.1) _

set_option maxHeartbeats 1000000 in
theorem get_ok (S : Nat → Prop) (p s : Nat) (A : Option Addr) (c : Nat) (pre zs rs : List Int) (n k : Nat) (w : World) (h : RdOf w S p s A c pre (zs ++ rs)) (hb : Byt zs) (hz : zs.length = n) (hkn : k + n = 8) (hn : 1 ≤ n) (hv : num zs < 9223372036854775808) :
    Calls Try.prog 70 #[.pointer (some ⟨p, 0, none⟩), .int .i64 (n : Int)] w fun e w' => e = .returned (.tuple #[.int .i64 (num zs), .int .i64 0]) ∧ ∃ W, Below w.heap.size w W ∧ w' = W.setCell ⟨s, 1, none⟩ (.int .i64 ((pre.length : Int) + n)) := by
  obtain ⟨h1, hl, h2, h3, h4, h5, h6, h7⟩ := h
  obtain ⟨x0, f0⟩ := blk1 h4
  obtain ⟨y0, y1, g0, g1⟩ := blk2 h5
  have lp := h4.lt
  have ls := h5.lt
  have H4 := Lib.hid h4
  have H5 := Lib.hid h5
  have H6 := Lib.hid h6
  obtain ⟨V, hV⟩ : ∃ V, V = num zs := ⟨_, rfl⟩
  have hV0 : 0 ≤ V := by rw [hV]; exact num_nonneg hb
  have hV1 : V < 9223372036854775808 := by rw [hV]; exact hv
  have hsh : (V / 9223372036854775808 == 1) = false := by simp; omega
  rw [← hV]
  have HV := Lib.hid hV
  clear hV hv
  have HH := Lib.hid (show RdAt w S p (zs ++ rs) from ⟨s, A, c, pre, h1, hl, h2, h3, h4, h5, h6, h7⟩)
  have H7 := Lib.hid (And.intro h1 (And.intro h2 (And.intro h3 h7)))
  have HZ := Lib.hid (And.intro hz hb)
  clear h4 h5 h6 h7 h1 h2 h3 hb
  have hlen : ((zs ++ rs).length : Int) = (n : Int) + (rs.length : Int) := by simp [hz]
  have HLN := Lib.hid hlen
  clear hlen hz
  have hk8 : (8 : Int) - (n : Int) = (k : Int) := by omega
  have hk0 : (0 : Int) ≤ (k : Int) := by omega
  have hk1 : (k : Int) ≤ 8 := by omega
  have hk2 : k ≤ 8 := by omega
  have hn1 : ¬ (n : Int) < 1 := by omega
  have hn8 : ¬ (8 : Int) < (n : Int) := by omega
  have hwk : IntKind.i64.wrap (k : Int) = (k : Int) := IntWalk.i64_in _ ⟨by omega, by omega⟩
  have hlt : ¬ (n : Int) + (rs.length : Int) < (n : Int) := by omega
  have HK := Lib.hid (And.intro hkn hn)
  clear hkn hn
  go_enter Try.func70, Try.ntmps70
  go_wp2_with (first
    | (go_at_call 72; refine (rnone_any p s w H4.out).mono ?_; rintro e w' ⟨rfl, rfl⟩)
    | (go_at_call 50; refine (left_any S p (zs ++ rs) w HH.out).mono ?_; rintro e w1 ⟨rfl, hw1⟩; have hb1 : Below w.heap.size w w1 := (by obtain ⟨n, rfl⟩ := hw1; exact BdN (B0 w) n); clear hw1; rw [HLN.out]; obtain ⟨x0', f0'⟩ := blk1 (H4.out.later hb1); obtain ⟨y0', y1', g0', g1'⟩ := blk2 (H5.out.later hb1); have lp' : p < w1.heap.size := Nat.lt_of_lt_of_le lp hb1.size; have ls' : s < w1.heap.size := Nat.lt_of_lt_of_le ls hb1.size))
  go_region_law (first
    | (go_simp; go_at_call 73; refine (rest_any s A c pre (zs ++ rs) _ (H5.out.later (by repeat (first | exact hb1 | apply Bd | apply BdN | apply Ba))) (own_below H6.out (by repeat (first | exact hb1 | apply Bd | apply BdN | apply Ba))) hl).mono ?_; rintro e w' ⟨A', c', rfl, HR, nr, rfl⟩; replace HR := Lib.hid HR)
    | (refine step_copy_at rfl (.tmp 22) (.tmp 27) 23 23 rfl 5 Try.underlying23 (by kernel_rfl) w1.heap.size k n (8 - k) (zs ++ rs).length c' A' (by simp [Act.eval, Act.put]; have := HK.out; omega) (by simp [Act.eval, Act.put]) _ 118 (Blk.new w1 118 #[.int .u8 0, .int .u8 0, .int .u8 0, .int .u8 0, .int .u8 0, .int .u8 0, .int .u8 0, .int .u8 0]) _ (bts zs) (bts rs) (by rw [← bts_append]; exact HR.out) (bts_one zs) (by rw [bts_length]; exact HZ.out.1) (by have := HK.out; omega) (by have := HK.out; simp; omega) ?_; intro w2 HB2 HM2))
  all_goals
    rw [zeros_part k n zs HK.out.1] at HB2
    obtain ⟨c0, c1, c2, c3, c4, c5, c6, c7, hL⟩ := eight (List.replicate k 0 ++ zs) (by have := HK.out; have := HZ.out; simp; omega)
    have hLb := byt_zeros k zs HZ.out.2
    have hLn := num_zeros k zs
    rw [← HV.out] at hLn
    rw [hL] at HB2 hLb hLn
    have HL := Lib.hid hLn
    have hw : 118 = 118 := rfl
    obtain ⟨q0, q1, q2, q3, q4, q5, q6, q7⟩ := blk8 HB2
    have hc := Lib.hid (fun (x : Int) (hx : x ∈ [c0, c1, c2, c3, c4, c5, c6, c7]) => hLb x hx)
    have hb2 : Below w.heap.size w w2 := Bm (by repeat (first | exact hb1 | apply Bd | apply BdN | apply Ba)) HM2 (fun i hi => by subst hi; exact hb1.size)
    obtain ⟨x0'', f0''⟩ := blk1 (H4.out.later hb2)
    obtain ⟨y0'', y1'', g0'', g1''⟩ := blk2 (H5.out.later hb2)
    have lp2 : p < w2.heap.size := Nat.lt_of_lt_of_le lp hb2.size
    have ls2 : s < w2.heap.size := Nat.lt_of_lt_of_le ls hb2.size
    clear hL hLb hLn
    go_wp2_with (go_at_call 81; refine (value_walk c0 c1 c2 c3 c4 c5 c6 c7 _ (hc.out _ (by simp)) (hc.out _ (by simp)) (hc.out _ (by simp)) (hc.out _ (by simp)) (hc.out _ (by simp)) (hc.out _ (by simp)) (hc.out _ (by simp)) (hc.out _ (by simp))).mono ?_; rintro e w3 ⟨rfl, hb3⟩; rw [HL.out]; obtain ⟨x0t, f0t⟩ := blk1 (H4.out.later (Bt hb2 hb3)); obtain ⟨y0t, y1t, g0t, g1t⟩ := blk2 (H5.out.later (Bt hb2 hb3)); have lp3 : p < w3.heap.size := Nat.lt_of_lt_of_le lp (Bt hb2 hb3).size; have ls3 : s < w3.heap.size := Nat.lt_of_lt_of_le ls (Bt hb2 hb3).size)
    go_ret2
    exact ⟨rfl, _, Bt hb2 hb3, rfl⟩
end Go.Proofs.Ytnphnaggamfoiaa.Wr
