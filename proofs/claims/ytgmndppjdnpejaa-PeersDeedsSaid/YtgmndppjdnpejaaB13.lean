/- What a netmap that may be is like; what a table's peers are (plain words); a map written, in a region that draws. -/
import Derived.Test.YtgmndppjdnpejaaB12
namespace Go.Proofs.Ytgmndppjdnpejaa
open Go.RowKit
open Go.Maps (Keyed)
set_option maxRecDepth 20000
set_option linter.unusedVariables false
set_option linter.unusedSimpArgs false

/-- What a peer is, wherever its spans lie. -/
structure Px where
  nd : Int
  ks : List Int
  ex : Int
  ins : List Sp
  outs : List Sp
def Pe.px (p : Pe) : Px := ⟨p.nd, p.ks, p.ex, p.ins, p.outs⟩
theorem goB_mem {c n : Int} : ∀ {ps : List Pe} {t : Int} {kl : List (List Int)}, goB c n t kl ps = true → ∀ p ∈ ps, t < p.nd ∧ ndB p.nd = true ∧ p.nd ≠ n ∧ p.ks ∉ kl ∧ nuB p.ex = true ∧ c < p.ex ∧ spB p.ins = true ∧ spB p.outs = true ∧ 0 < p.ins.length + p.outs.length
  | [], _, _, _, p, hp => by simp at hp
  | q :: ps, t, kl, h, p, hp => by
    unfold goB at h
    rw [Bool.and_eq_true] at h
    obtain ⟨h1, h2⟩ := h
    unfold peB at h1
    simp only [Bool.and_eq_true, decide_eq_true_eq, Bool.not_eq_true', beq_eq_false_iff_ne] at h1
    obtain ⟨⟨a1, a2, a3, a4⟩, ⟨a5, a6⟩, a7, a8, a9⟩ := h1
    rcases List.mem_cons.1 hp with rfl | hp
    · refine ⟨a1, a2, a3, fun hm => ?_, a5, a6, a7, a8, a9⟩
      have : kl.contains p.ks = true := List.contains_iff_mem.2 hm
      rw [this] at a4
      cases a4
    · obtain ⟨b1, b2, b3, b4, b5⟩ := goB_mem h2 p hp
      exact ⟨by omega, b2, b3, fun hm => b4 (List.mem_append.2 (.inl hm)), b5⟩
theorem goB_pair {c n : Int} : ∀ {ps : List Pe} {t : Int} {kl : List (List Int)}, goB c n t kl ps = true → ps.Pairwise (fun p q => p.nd < q.nd ∧ p.ks ≠ q.ks)
  | [], _, _, _ => List.Pairwise.nil
  | q :: ps, t, kl, h => by
    unfold goB at h
    rw [Bool.and_eq_true] at h
    refine List.pairwise_cons.2 ⟨fun p hp => ?_, goB_pair h.2⟩
    obtain ⟨b1, _, _, b4, _⟩ := goB_mem h.2 p hp
    exact ⟨b1, fun e => b4 (by rw [e]; simp)⟩
/-- A netmap that may be. -/
structure NmOk (m : Nm) : Prop where
  ver : 0 ≤ m.ver ∧ m.ver ≤ 9007199254740991
  node : 1 ≤ m.node ∧ m.node ≤ 8
  nd : ∀ p ∈ m.ps, 1 ≤ p.nd ∧ p.nd ≤ 8
  other : ∀ p ∈ m.ps, p.nd ≠ m.node ∧ p.ks ≠ z32 ∧ p.ks ≠ m.ks
  ex : ∀ p ∈ m.ps, 0 ≤ p.ex ∧ p.ex ≤ 9007199254740991
  len : ∀ p ∈ m.ps, p.ins.length ≤ 33 ∧ p.outs.length ≤ 33
  pair : m.ps.Pairwise (fun p q => p.nd < q.nd ∧ p.ks ≠ q.ks)
theorem nuB_le {n : Int} (h : nuB n = true) : 0 ≤ n ∧ n ≤ 9007199254740991 := by simpa [nuB] using h
theorem nm_ok {m : Nm} (h : nmB m = true) : NmOk m := by
  unfold nmB mayB at h
  simp only [Bool.and_eq_true] at h
  obtain ⟨h1, h2, h3, h4⟩ := h
  have hn : 1 ≤ m.node ∧ m.node ≤ 8 := ndB_le h3
  by_cases hz : m.hd.ks = z32
  · rw [if_pos hz] at h4
    simp only [Bool.and_eq_true, beq_iff_eq] at h4
    have : m.ps = [] := List.eq_nil_of_length_eq_zero h4.2
    exact ⟨nuB_le h1, hn, by rw [this]; simp, by rw [this]; simp, by rw [this]; simp, by rw [this]; simp, by rw [this]; exact List.Pairwise.nil⟩
  · rw [if_neg hz] at h4
    simp only [Bool.and_eq_true] at h4
    obtain ⟨_, _, hg⟩ := h4
    have hmem := goB_mem hg
    refine ⟨nuB_le h1, hn, fun p hp => ndB_le (hmem p hp).2.1, fun p hp => ⟨(hmem p hp).2.2.1, fun e => (hmem p hp).2.2.2.1 (by rw [e]; simp), fun e => (hmem p hp).2.2.2.1 (by rw [e]; simp [Nm.hd])⟩, fun p hp => nuB_le (hmem p hp).2.2.2.2.1, fun p hp => ⟨spB_len (hmem p hp).2.2.2.2.2.2.1, spB_len (hmem p hp).2.2.2.2.2.2.2.1⟩, goB_pair hg⟩
theorem lkN_snoc (qs : List Pe) (q : Pe) (n : Int) : lkN (qs ++ [q]) n = if q.nd = n then some q else lkN qs n := by
  unfold lkN
  rw [List.reverse_append, List.reverse_singleton, List.singleton_append, List.find?_cons]
  by_cases h : q.nd = n
  · rw [if_pos h]; simp [h]
  · rw [if_neg h, show (q.nd == n) = false by simpa using h]
theorem lkK_snoc (qs : List Pe) (q : Pe) (ks : List Int) : lkK (qs ++ [q]) ks = if q.ks = ks then some q else lkK qs ks := by
  unfold lkK
  rw [List.reverse_append, List.reverse_singleton, List.singleton_append, List.find?_cons]
  by_cases h : q.ks = ks
  · rw [if_pos h]; simp [h]
  · rw [if_neg h, show (q.ks == ks) = false by simpa using h]
theorem bts_inj {xs ys : List Int} (h : bts xs = bts ys) : xs = ys := by
  unfold bts at h
  exact (List.map_inj_right (fun a b hab => by injection hab)).1 h
theorem fk_snoc {fk : Value → Option Value} {qs : List Pe} (h : FkIs fk qs) (q : Pe) : FkIs (updF fk (.agg (bts q.ks).toArray) (.int .i64 q.nd)) (qs ++ [q]) := fun ks => by
  rw [lkK_snoc]
  by_cases e : q.ks = ks
  · subst e
    rw [updF_same, if_pos rfl]
    rfl
  · rw [updF_other (fun he => e (bts_inj (by injection he with he; injection he with he; exact he.symm))), if_neg e]
    exact h ks
theorem fn_snoc {fn : Value → Option Value} {qs : List Pe} (h : FnIs fn qs) (q : Pe) : FnIs (updF fn (.int .i64 q.nd) q.v) (qs ++ [q]) := fun n => by
  rw [lkN_snoc]
  by_cases e : q.nd = n
  · subst e
    rw [updF_same, if_pos rfl]
    rfl
  · rw [updF_other (fun he => e (by injection he with _ he; exact he.symm)), if_neg e]
    exact h n
/-- 'm[k] = v' where an order is drawn. -/
theorem wp_put {k t e : TypeId} {b n : Nat} {f : Value → Option Value} {w : World} {op : Oper} {a : Act} {K : Act → World → Prop} {Q : Exit → Act → World → Prop} (m x v : Operand) (hop : op.op = Op.mapUpdate t m x v)
    (h : MapIs w k b n f) (K0 : Keyed Try.prog k) (ht : Try.prog.underlying t = some (.map k e)) (hn : n < maxLen) (hm : a.eval m = .map (some b)) (key val : Value) (hx : a.eval x = key) (hv : a.eval v = val) {kl : Lit} (hkey : keyOf Try.prog k key = some kl)
    (hK : ∀ w', MapIs w' k b (n + 1) (updF f key val) → Mod (fun i => i = b) w w' → K (a.put op.dst undef) w') : op.wp Try.prog a w K Q := by
  obtain ⟨w', hr, h', hm'⟩ := h.store K0 ht hn (val := val) hkey
  unfold Oper.wp
  simp [execOp, hop, hm, hx, hv, hr, Result.andThen]
  exact hK w' h' hm'
end Go.Proofs.Ytgmndppjdnpejaa
