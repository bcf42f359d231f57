/- The relay in memory; check, New, Len. -/
import Derived.Test.YtdnbbjhickjnmaaR4
import Derived.Deep.RegionLaw
import Derived.Lib.SliceRun
namespace Go.Proofs.Ytdnbbjhickjnmaa
open Go.RowKit
set_option maxRecDepth 20000
set_option linter.unusedVariables false
set_option linter.unusedSimpArgs false

theorem own_ne_blk {w : World} {g t base : Nat} {cs : Array Value} {e : TypeId} {size n : Nat} {v : Value} {xs : List Value} (h : w.ownsRow base e size v n xs) (hg : Blk w g t cs) (hne : e ≠ t) : v.ownBlock ≠ some g := by
  rcases h.2 with ⟨rfl, _⟩ | ⟨g', cap, cur, rfl, _, hh, _⟩
  · simp [Value.ownBlock]
  · intro he
    have : g' = g := by simpa [Value.ownBlock] using he
    subst this
    exact Blk.ne_ (t := e) hh hg hne rfl

theorem clone_any (S : Nat → Prop) (A : Option Addr) (c : Nat) (xs : List Int) (w : World) (h : Rd w S 1 (.slice A xs.length c) xs.length (bts xs)) (hS : ∀ i, S i → i < w.heap.size) (hsz : xs.length ≤ 140737488355328) :
    Calls Try.prog 47 #[.slice A xs.length c] w fun e w' => ∃ A' c', e = .returned (.slice A' xs.length c') ∧ Fresh w w' A' c' xs := by
  obtain ⟨i0, hi0, hz0, hz1, hz2⟩ := info_parts info5
  have hnil := fun (a : Option Addr) (n c : Nat) (w : World) => Lib.run_eql_slice_nil (P := Try.prog) w 29 5 a n c 0 0 Try.underlying29
  rcases A with _ | a
  · have h0 : xs = [] := by
      rcases Nat.eq_zero_or_pos xs.length with h0 | h0
      · exact List.eq_nil_of_length_eq_zero h0
      · obtain ⟨g, o, he, _⟩ := h.some_ h0; cases he
    subst h0
    go_enter Try.func47, Try.ntmps47
    go_wp2
    go_ret
    exact ⟨none, 0, rfl, World.ownsRow_nil _ _ _ _, Below.refl _ _⟩
  · have HR := Lib.hid h
    clear h
    have HO := Lib.hid (own_of_blk (base := w.heap.size) (n := 0) (size := 1) (cs := []) (Blk.new w 5 #[]) (by simp) (by simp [maxLen]) (Nat.le_refl _))
    go_enter Try.func47, Try.ntmps47
    go_wp2_with (at_builtin; refine wpList_append_rd _ rfl (.tmp 5) (.tmp 6) _ rfl w.heap.size 5 i0 _ 1 1 Try.underlying29 hi0 hz0 hz1 hz2 rfl (by omega) (.slice (some ⟨w.heap.size, 0, none⟩) 0 0) 0 [] rfl HO.out S (.slice (some a) xs.length c) xs.length (bts xs) rfl (HR.out.below (Ba (B0 w) _) hS) (bts_one xs) (by simp only [maxLen]; omega) (by omega) (by simp) ?_; intro v1 w1 HA)
    go_ret
    obtain ⟨A', c', rfl⟩ := own_slice HA.own
    simp only [Nat.zero_add, List.nil_append] at HA
    exact ⟨A', c', by simp, HA.own, (Ba (B0 w) (.cells #[] 5)).grown HA.grown (by simp) (by simp [Value.ownBlock])⟩

def nodeB (n : Int) : Bool := decide (1 ≤ n) && decide (n ≤ 8)
theorem node_any (n : Int) (w : World) : Calls Try.prog 48 #[.int .i64 n] w fun e w' => e = .returned (.bool (nodeB n)) ∧ w = w' := by
  go_enter Try.func48, Try.ntmps48
  go_wp2
  all_goals go_ret
  all_goals refine ⟨ret_bool ?_, rfl⟩
  all_goals (rw [Bool.eq_iff_iff]; simp [nodeB]; try omega)

def chkE (f t : Int) (n : Nat) : Int := if (nodeB f && nodeB t && !(f == t)) = true then (if 4608 < n then 5 else 0) else 220
theorem check_any (f t : Int) (A : Option Addr) (n c : Nat) (w : World) : Calls Try.prog 46 #[.agg #[.int .i64 f, .int .i64 t, .slice A n c]] w fun e w' => e = .returned (.int .i64 (chkE f t n)) ∧ Below w.heap.size w w' := by
  unfold chkE
  cases hf : nodeB f
  · have HF := Lib.hid hf
    clear hf
    simp only [Bool.false_and, Bool.false_eq_true, if_false]
    go_enter Try.func46, Try.ntmps46
    go_wp2_with (go_at_call_of 48 f; refine (node_any f _).mono ?_; rintro e w' ⟨rfl, rfl⟩; rw [HF.out])
    go_ret
    exact ⟨rfl, Ba (B0 w) _⟩
  · cases ht : nodeB t
    · have HF := Lib.hid hf
      have HT := Lib.hid ht
      clear hf ht
      simp only [Bool.false_and, Bool.and_false, Bool.false_eq_true, if_false]
      by_cases hab : f = t
      · exfalso; have h1 := HF.out; have h2 := HT.out; rw [hab, h2] at h1; cases h1
      clear hab
      go_enter Try.func46, Try.ntmps46
      go_wp2_with (first
        | (go_at_call_of 48 f; refine (node_any f _).mono ?_; rintro e w' ⟨rfl, rfl⟩; rw [HF.out])
        | (go_at_call_of 48 t; refine (node_any t _).mono ?_; rintro e w' ⟨rfl, rfl⟩; rw [HT.out]))
      go_ret
      exact ⟨rfl, Ba (B0 w) _⟩
    · cases hne : (f == t)
      · have HF := Lib.hid hf
        have HT := Lib.hid ht
        clear hf ht
        simp only [Bool.true_and, Bool.not_false, if_true]
        by_cases hn : 4608 < n
        · have hn' : (4608 : Int) < (n : Int) := by omega
          rw [if_pos hn]
          clear hn
          go_enter Try.func46, Try.ntmps46
          go_wp2_with (first
            | (go_at_call_of 48 f; refine (node_any f _).mono ?_; rintro e w' ⟨rfl, rfl⟩; rw [HF.out])
            | (go_at_call_of 48 t; refine (node_any t _).mono ?_; rintro e w' ⟨rfl, rfl⟩; rw [HT.out]))
          go_ret
          exact ⟨rfl, Ba (B0 w) _⟩
        · have hn' : ¬ (4608 : Int) < (n : Int) := by omega
          rw [if_neg hn]
          clear hn
          go_enter Try.func46, Try.ntmps46
          go_wp2_with (first
            | (go_at_call_of 48 f; refine (node_any f _).mono ?_; rintro e w' ⟨rfl, rfl⟩; rw [HF.out])
            | (go_at_call_of 48 t; refine (node_any t _).mono ?_; rintro e w' ⟨rfl, rfl⟩; rw [HT.out]))
          go_ret
          exact ⟨rfl, Ba (B0 w) _⟩
      · have e : f = t := by simpa using hne
        subst e
        have HF := Lib.hid hf
        clear hf ht
        simp only [Bool.and_false, Bool.not_true, Bool.false_eq_true, if_false]
        go_enter Try.func46, Try.ntmps46
        go_wp2_with (go_at_call_of 48 f; refine (node_any f _).mono ?_; rintro e w' ⟨rfl, rfl⟩; rw [HF.out])
        go_ret
        exact ⟨rfl, Ba (B0 w) _⟩

def upd {α : Type} (f : Nat → α) (n : Nat) (v : α) : Nat → α := fun i => if i = n then v else f i
theorem upd_same {α : Type} (f : Nat → α) (n : Nat) (v : α) : upd f n v n = v := by simp [upd]
theorem upd_ne {α : Type} (f : Nat → α) {n i : Nat} (v : α) (h : i ≠ n) : upd f n v i = f i := by simp [upd, h]
def relCells (vs : Nat → Value) : Array Value := #[.bool true, vs 0, vs 1, vs 2, vs 3, vs 4, vs 5, vs 6, vs 7, vs 8]
theorem relCells_at (vs : Nat → Value) (n : Nat) (h : n < 9) : (relCells vs)[1 + n]? = some (vs n) := by
  obtain rfl | rfl | rfl | rfl | rfl | rfl | rfl | rfl | rfl : n = 0 ∨ n = 1 ∨ n = 2 ∨ n = 3 ∨ n = 4 ∨ n = 5 ∨ n = 6 ∨ n = 7 ∨ n = 8 := by omega
  all_goals rfl
theorem relCells_set (vs : Nat → Value) (n : Nat) (h : n < 9) (v : Value) : (relCells vs).setIfInBounds (1 + n) v = relCells (upd vs n v) := by
  obtain rfl | rfl | rfl | rfl | rfl | rfl | rfl | rfl | rfl : n = 0 ∨ n = 1 ∨ n = 2 ∨ n = 3 ∨ n = 4 ∨ n = 5 ∨ n = 6 ∨ n = 7 ∨ n = 8 := by omega
  all_goals rfl

/-- A relay at block p, with these frames for each node; S: all its blocks. -/
def RelAt (w : World) (S : Nat → Prop) (p : Nat) (q : Nat → List Dg) : Prop :=
  S p ∧ (∀ i, S i → i < w.heap.size) ∧ (∀ n, n < 9 → (q n).length ≤ 16) ∧ ∃ (ls : Nat → List Item) (vs : Nat → Value) (T : Nat → Prop), (∀ n, n < 9 → (ls n).map Item.dg = q n) ∧ Blk w p 78 (relCells vs) ∧
    (∀ n, n < 9 → w.ownsRow 0 31 3 (vs n) (ls n).length (rowOf (ls n))) ∧ (∀ n k, n < 9 → (vs n).ownBlock = some k → S k ∧ ¬ T k) ∧ (∀ n m k, n < 9 → m < 9 → (vs n).ownBlock = some k → (vs m).ownBlock = some k → n = m) ∧
    (∀ i, T i → S i ∧ i ≠ p) ∧ ∀ n, n < 9 → ∀ x ∈ ls n, x.ok w T

theorem Item.ok_kept {w w' : World} {T U : Nat → Prop} {x : Item} (h : x.ok w T) (hm : Mod U w w') (hd : ∀ i, T i → ¬ U i) : x.ok w' T := ⟨h.1.kept hm hd, h.2⟩
theorem Item.ok_mono {w : World} {T U : Nat → Prop} {x : Item} (h : x.ok w T) (hd : ∀ i, T i → U i) : x.ok w U := ⟨h.1.mono hd, h.2⟩
theorem RelAt.kept {w w' : World} {S U : Nat → Prop} {p : Nat} {q : Nat → List Dg} (h : RelAt w S p q) (hm : Mod U w w') (hd : ∀ i, S i → ¬ U i) : RelAt w' S p q := by
  obtain ⟨h1, h2, h2', ls, vs, T, h3, h4, h5, h6, h6', h7, h8⟩ := h
  exact ⟨h1, fun i hi => Nat.lt_of_lt_of_le (h2 i hi) hm.size, h2', ls, vs, T, h3, h4.kept hm (hd _ h1), fun n hn => own_mod (h5 n hn) hm (fun k hk => hd _ (h6 n k hn hk).1) (Nat.le_refl _), h6, h6', h7, fun n hn x hx => Item.ok_kept (h8 n hn x hx) hm (fun i hi => hd _ (h7 i hi).1)⟩
theorem RelAt.below {w w' : World} {S : Nat → Prop} {p : Nat} {q : Nat → List Dg} (h : RelAt w S p q) (hb : Below w.heap.size w w') : RelAt w' S p q :=
  h.kept (Mod.of_below (S := fun _ => False) hb) (fun _ _ h => h)
theorem RelAt.lt {w : World} {S : Nat → Prop} {p : Nat} {q : Nat → List Dg} (h : RelAt w S p q) : ∀ i, S i → i < w.heap.size := h.2.1

/-- Behind a call on the relay: what it answers, the relay then, and where it may lie. -/
def Did (S : Nat → Prop) (p : Nat) (q : Nat → List Dg) (v : Value) (w : World) (e : Ending) (w' : World) : Prop :=
  e = .returned v ∧ ∃ S', Mod S w w' ∧ RelAt w' S' p q ∧ ∀ i, S' i → S i ∨ w.heap.size ≤ i
theorem Did.same {w w' : World} {S : Nat → Prop} {p : Nat} {q : Nat → List Dg} {v : Value} (h : RelAt w S p q) (hb : Below w.heap.size w w') : Did S p q v w (.returned v) w' :=
  ⟨rfl, S, Mod.of_below hb, h.below hb, fun _ hi => .inl hi⟩

theorem rnew_any (w : World) : Calls Try.prog 14 #[] w fun e w' => e = .returned (.pointer (some ⟨w.heap.size, 0, none⟩)) ∧ Below w.heap.size w w' ∧ RelAt w' (fun k => k = w.heap.size) w.heap.size (fun _ => []) := by
  go_enter Try.func14, Try.ntmps14
  go_wp2
  go_ret
  refine ⟨by simp, Ba (B0 w) _, rfl, by simp, by simp, fun _ => [], fun _ => .slice none 0 0, fun _ => False, by simp, Blk.new w 78 _, fun _ _ => World.ownsRow_nil _ _ _ _, by simp [Value.ownBlock], by simp [Value.ownBlock], fun i h => h.elim, by simp⟩

def lenF (q : Nat → List Dg) (n : Int) : Int := if nodeB n then ((q n.toNat).length : Int) else 0
theorem node_nat {n : Int} (h : nodeB n = true) : ∃ k : Nat, n = k ∧ 1 ≤ k ∧ k < 9 := by
  simp only [nodeB, Bool.and_eq_true, decide_eq_true_eq] at h
  obtain ⟨k, rfl⟩ := Int.eq_ofNat_of_zero_le (show 0 ≤ n by omega)
  exact ⟨k, rfl, by omega, by omega⟩
theorem rlen_any (S : Nat → Prop) (p : Nat) (q : Nat → List Dg) (n : Int) (w : World) (h : RelAt w S p q) :
    Calls Try.prog 22 #[.pointer (some ⟨p, 0, none⟩), .int .i64 n] w fun e w' => e = .returned (.int .i64 (lenF q n)) ∧ w = w' := by
  obtain ⟨h1, h2, h2', ls, vs, T, h3, h4, h5, h6, h6', h7, h8⟩ := h
  unfold lenF
  cases hn : nodeB n
  · have HN := Lib.hid hn
    simp only [Bool.false_eq_true, if_false]
    clear h1 h2 h2' h3 h4 h5 h6 h6' h7 h8 hn
    go_enter Try.func22, Try.ntmps22
    go_wp2_with (go_at_call 48; refine (node_any n _).mono ?_; rintro e w' ⟨rfl, rfl⟩; rw [HN.out])
    go_ret
    exact ⟨rfl, rfl⟩
  · obtain ⟨k, rfl, k0, k1⟩ := node_nat hn
    have HN := Lib.hid hn
    obtain ⟨As, cs, hv⟩ := own_slice (h5 k k1)
    have q0 := (h4.cell (1 + k)).trans (relCells_at vs k k1)
    rw [hv] at q0
    have e : (q k).length = (ls k).length := by rw [← h3 k k1]; simp
    simp only [if_true, Int.toNat_natCast, e]
    have i0 : (0 : Int) ≤ (k : Int) := by omega
    have i1 : (k : Int) < 9 := by omega
    clear h1 h2 h2' h3 h4 h5 h6 h6' h7 h8 hn hv e
    go_enter Try.func22, Try.ntmps22
    go_wp2_with (go_at_call 48; refine (node_any k _).mono ?_; rintro e w' ⟨rfl, rfl⟩; rw [HN.out])
    go_ret
    exact ⟨rfl, rfl⟩
end Go.Proofs.Ytdnbbjhickjnmaa
