/- The relay's calls as the statements use them: one relay of the call's own, beside other blocks that stay (K). -/
import Derived.Test.YtdnbbjhickjnmaaR8
namespace Go.Proofs.Ytdnbbjhickjnmaa
open Go.RowKit
set_option maxRecDepth 20000
set_option linter.unusedVariables false
set_option linter.unusedSimpArgs false

theorem rtake_any (S : Nat → Prop) (p : Nat) (q : Nat → List Dg) (n : Int) (w : World) (h : RelAt w S p q) : Calls Try.prog 17 #[.pointer (some ⟨p, 0, none⟩), .int .i64 n] w (Took S p q n w) := by
  have h0 := h
  obtain ⟨h1, h2, h2', ls, vs, U, h3, h4, h5, h6, h6', h7, h8⟩ := h
  unfold Took
  cases hn : nodeB n
  · have he : takE q n = 220 := by simp [takE, hn]
    have hd : takD q n = ⟨0, 0, []⟩ := by simp [takD, he]
    have hq : takQ q n = q := by simp [takQ, he]
    rw [he, hd, hq]
    exact (take_err p n vs w h4 hn).mono fun e w' ⟨he, hb⟩ => ⟨none, 0, he, Rd.nil _ _ _, Mod.of_below hb, h0.below hb⟩
  · obtain ⟨k, rfl, k0, k1⟩ := node_nat hn
    have hll : (ls k).length = (q k).length := by rw [← h3 k k1]; simp
    by_cases hz : (q k).length = 0
    · have he : takE q k = 240 := by simp only [takE, hn, if_true, Int.toNat_natCast, hz]
      have hd : takD q k = ⟨0, 0, []⟩ := by simp [takD, he]
      have hq : takQ q k = q := by simp [takQ, he]
      rw [he, hd, hq]
      obtain ⟨As, cs, hv⟩ := own_slice (h5 k k1)
      rw [hll, hz] at hv
      exact (take_none p k vs As cs w h4 hn k1 hv).mono fun e w' ⟨he, hb⟩ => ⟨none, 0, he, Rd.nil _ _ _, Mod.of_below hb, h0.below hb⟩
    · have he : takE q k = 0 := by simp only [takE, hn, if_true, Int.toNat_natCast, hz, if_false]
      have hl0 : 0 < (ls k).length := by omega
      have hd : takD q k = (ls k)[0].dg := by
        simp only [takD, he, if_true, Int.toNat_natCast, ← h3 k k1]
        obtain ⟨a, r, hr⟩ := List.exists_cons_of_length_pos hl0
        simp [hr]
      have hq : takQ q k = upd q k (q k).tail := by simp only [takQ, he, if_true, Int.toNat_natCast]
      rw [he, hd, hq]
      have h16 := h2' k k1
      refine (take_ok p k vs (ls k) hl0 (by omega) w h4 hn k1 (h5 k k1)).mono ?_
      rintro e w' ⟨rfl, A2, c2, W, w2, hW, hoW, ho2, hob, hm2, hm3⟩
      have hx := h8 k k1 _ (List.getElem_mem hl0)
      have hp2 : Blk w2 p 78 (relCells vs) := (h4.later hW).kept hm2 (fun h => own_ne_blk (h5 k k1) h4 (show (31 : TypeId) ≠ 78 by decide) h)
      have hm4 : Mod (fun i => (vs k).ownBlock = some i ∨ i = p ∨ i = w.heap.size) W w' :=
        ((hm2.mono (T := fun i => (vs k).ownBlock = some i ∨ i = p ∨ i = w.heap.size) (fun i hi => .inl hi)).setCell (p := ⟨p, 1 + k, none⟩) (.inl (.inr (.inl rfl))) _).trans hm3 (fun i hi => .inl (.inr (.inr hi)))
      have hlp := h2 p h1
      have hob0 : ∀ i, (vs k).ownBlock = some i → S i ∧ ¬ U i := fun i hi => h6 k i k1 hi
      have hUd : ∀ i, U i → ¬ ((vs k).ownBlock = some i ∨ i = p ∨ i = w.heap.size) := fun i hi hh => by
        rcases hh with hh | hh | hh
        · exact (hob0 i hh).2 hi
        · exact (h7 i hi).2 hh
        · have := h2 i (h7 i hi).1; omega
      have hWs := hW.size
      have hpne : p ≠ w.heap.size := by omega
      have hm5 : Mod (fun i => i = p ∨ i = w.heap.size) w2 w' := ((Mod.refl (fun i => i = p ∨ i = w.heap.size) w2).setCell (p := ⟨p, 1 + k, none⟩) (.inl (.inl rfl)) _).trans hm3 (fun i hi => .inl (.inr hi))
      refine ⟨_, _, rfl, ?_, ?_, h1, ?_, ?_, upd ls k (ls k).tail, upd vs k (.slice A2 ((ls k).length - 1) c2), U, ?_, ?_, ?_, ?_, ?_, h7, ?_⟩
      · exact ((hx.1.below hW (fun i hi => h2 i (h7 i hi).1)).kept hm4 hUd).mono (fun i hi => (h7 i hi).1)
      · exact (Mod.of_below (S := S) hW).trans hm4 (fun i hi => by
          rcases hi with hi | rfl | rfl
          · exact .inl (hob0 i hi).1
          · exact .inl h1
          · exact .inr (Nat.le_refl _))
      · intro i hi
        have := h2 i hi
        have := hm4.size
        omega
      · intro n hn'
        by_cases e : n = k
        · subst e; rw [upd_same]; simp; omega
        · rw [upd_ne _ _ e]; exact h2' n hn'
      · intro n hn'
        by_cases e : n = k
        · subst e; rw [upd_same, upd_same, ← h3 n hn', List.map_tail]
        · rw [upd_ne _ _ e, upd_ne _ _ e]; exact h3 n hn'
      · have := (hp2.set_ (1 + k) (.slice A2 ((ls k).length - 1) c2)).kept hm3 hpne
        rwa [relCells_set vs k k1] at this
      · intro n hn'
        by_cases e : n = k
        · subst e
          rw [upd_same, upd_same, List.length_tail]
          refine own_mod ho2 hm5 ?_ (Nat.le_refl _)
          rintro i hi (rfl | rfl)
          · exact own_ne_blk ho2 hp2 (show (31 : TypeId) ≠ 78 by decide) hi
          · have := h2 _ (hob0 _ (hob.trans hi)).1; omega
        · rw [upd_ne _ _ e, upd_ne _ _ e]
          refine own_mod (own_below (h5 n hn') hW) hm4 ?_ (Nat.le_refl _)
          rintro i hi (hh | rfl | rfl)
          · exact e (h6' n k i hn' k1 hi hh)
          · exact own_ne_blk (h5 n hn') h4 (show (31 : TypeId) ≠ 78 by decide) hi
          · have := h2 _ (h6 n _ hn' hi).1; omega
      · intro n i hn' hi
        by_cases e : n = k
        · subst e
          rw [upd_same] at hi
          exact h6 n i hn' (hob.trans hi)
        · rw [upd_ne _ _ e] at hi
          exact h6 n i hn' hi
      · intro n m i hn' hm' hi hi'
        have g : ∀ a, (upd vs k (.slice A2 ((ls k).length - 1) c2) a).ownBlock = some i → (vs a).ownBlock = some i := by
          intro a ha
          by_cases e : a = k
          · subst e; rw [upd_same] at ha; exact hob.trans ha
          · rwa [upd_ne _ _ e] at ha
        exact h6' n m i hn' hm' (g n hi) (g m hi')
      · intro n hn' x hx'
        have hx2 : x ∈ ls n := by
          by_cases e : n = k
          · subst e; rw [upd_same] at hx'; exact List.mem_of_mem_tail hx'
          · rwa [upd_ne _ _ e] at hx'
        exact Item.ok_kept (Item.ok_kept (h8 n hn' x hx2) (Mod.of_below (S := fun _ => False) hW) (fun _ _ h => h)) hm4 hUd

/-- What stays: what was there before (below B), and the blocks of K. -/
def Stays (B : Nat) (K : Nat → Prop) (i : Nat) : Prop := B ≤ i ∧ ¬ K i
def RelIn (B : Nat) (K : Nat → Prop) (w : World) (p : Nat) (q : Nat → List Dg) : Prop :=
  B ≤ w.heap.size ∧ (∀ i, K i → i < w.heap.size) ∧ ∃ S, (∀ i, S i → Stays B K i) ∧ RelAt w S p q
theorem RelIn.below {B : Nat} {K : Nat → Prop} {w w' : World} {p : Nat} {q : Nat → List Dg} (h : RelIn B K w p q) (hb : Below w.heap.size w w') : RelIn B K w' p q := by
  obtain ⟨h1, h2, S, h6, h7⟩ := h
  exact ⟨Nat.le_trans h1 hb.size, fun i hi => Nat.lt_of_lt_of_le (h2 i hi) hb.size, S, h6, h7.below hb⟩
/-- Blocks that are new stay from now on. -/
theorem RelIn.keep {B : Nat} {K L : Nat → Prop} {w w' : World} {p : Nat} {q : Nat → List Dg} (h : RelIn B K w p q) (hb : Below w.heap.size w w') (hL : ∀ i, L i → (w.heap.size ≤ i ∧ i < w'.heap.size) ∨ K i) : RelIn B L w' p q := by
  obtain ⟨h1, h2, S, h6, h7⟩ := h
  refine ⟨Nat.le_trans h1 hb.size, fun i hi => ?_, S, fun i hi => ⟨(h6 i hi).1, fun hl => ?_⟩, h7.below hb⟩
  · rcases hL i hi with h | h
    · exact h.2
    · exact Nat.lt_of_lt_of_le (h2 i h) hb.size
  · rcases hL i hl with h | h
    · have := h7.2.1 i hi; omega
    · exact (h6 i hi).2 h
/-- What others do to blocks of K, or to new ones. -/
theorem RelIn.other {B : Nat} {K T : Nat → Prop} {w w' : World} {p : Nat} {q : Nat → List Dg} (h : RelIn B K w p q) (hm : Mod T w w') (hT : ∀ i, T i → K i) : RelIn B K w' p q := by
  obtain ⟨h1, h2, S, h6, h7⟩ := h
  exact ⟨Nat.le_trans h1 hm.size, fun i hi => Nat.lt_of_lt_of_le (h2 i hi) hm.size, S, h6, h7.kept hm (fun i hi ht => (h6 i hi).2 (hT i ht))⟩

/-- Behind a call: what it answers; the relay then; what stays. -/
def DidIn (B : Nat) (K : Nat → Prop) (p : Nat) (q : Nat → List Dg) (v : Value) (w : World) (e : Ending) (w' : World) : Prop :=
  e = .returned v ∧ RelIn B K w' p q ∧ Mod (Stays B K) w w'
theorem did_in {B : Nat} {K S : Nat → Prop} {p : Nat} {q : Nat → List Dg} {v : Value} {w w' : World} {e : Ending} (h1 : B ≤ w.heap.size) (h2 : ∀ i, K i → i < w.heap.size) (hS : ∀ i, S i → Stays B K i) (h : Did S p q v w e w') : DidIn B K p q v w e w' := by
  obtain ⟨he, S', hm, hl, hs⟩ := h
  refine ⟨he, ⟨Nat.le_trans h1 hm.size, fun i hi => Nat.lt_of_lt_of_le (h2 i hi) hm.size, S', fun i hi => ?_, hl⟩, hm.mono hS⟩
  rcases hs i hi with h | h
  · exact hS i h
  · exact ⟨by omega, fun hk => by have := h2 i hk; omega⟩
theorem put_in {B : Nat} {K T : Nat → Prop} {p : Nat} {q : Nat → List Dg} (f t : Int) (A : Option Addr) (c : Nat) (bs : List Int) (w : World) (h : RelIn B K w p q) (hr : Rd w T 1 (.slice A bs.length c) bs.length (bts bs)) (hT : ∀ i, T i → i < w.heap.size) :
    Calls Try.prog 16 #[.pointer (some ⟨p, 0, none⟩), .agg #[.int .i64 f, .int .i64 t, .slice A bs.length c]] w (DidIn B K p (rputQ q f t bs) (.int .i64 (rputE q f t bs.length)) w) := by
  obtain ⟨h1, h2, S, h6, h7⟩ := h
  exact (rput_any S T p q f t A c bs w h7 hr hT).mono fun e w' hd => did_in h1 h2 h6 hd
theorem len_in {B : Nat} {K : Nat → Prop} {p : Nat} {q : Nat → List Dg} (n : Int) (w : World) (h : RelIn B K w p q) :
    Calls Try.prog 22 #[.pointer (some ⟨p, 0, none⟩), .int .i64 n] w fun e w' => e = .returned (.int .i64 (lenF q n)) ∧ w = w' := by
  obtain ⟨h1, h2, S, h6, h7⟩ := h
  exact rlen_any S p q n w h7
theorem new_in (K : Nat → Prop) (w : World) (hK : ∀ i, K i → i < w.heap.size) (B : Nat) (hB : B ≤ w.heap.size) : Calls Try.prog 14 #[] w (fun e w' => e = .returned (.pointer (some ⟨w.heap.size, 0, none⟩)) ∧ RelIn B K w' w.heap.size (fun _ => []) ∧ Below w.heap.size w w') :=
  (rnew_any w).mono fun e w' ⟨he, hb, hl⟩ => ⟨he, ⟨Nat.le_trans hB hb.size, fun i hi => Nat.lt_of_lt_of_le (hK i hi) hb.size, _, fun i hi => by subst hi; exact ⟨hB, fun hk => by have := hK _ hk; omega⟩, hl⟩, hb⟩
def TookIn (B : Nat) (K : Nat → Prop) (p : Nat) (q : Nat → List Dg) (n : Int) (w : World) (e : Ending) (w' : World) : Prop :=
  ∃ A c, e = .returned (.tuple #[.agg #[.int .i64 (takD q n).f, .int .i64 (takD q n).t, .slice A (takD q n).bs.length c], .int .i64 (takE q n)]) ∧ Rd w' (fun i => i < w'.heap.size) 1 (.slice A (takD q n).bs.length c) (takD q n).bs.length (bts (takD q n).bs) ∧
    RelIn B K w' p (takQ q n) ∧ Mod (Stays B K) w w'
theorem take_in {B : Nat} {K : Nat → Prop} {p : Nat} {q : Nat → List Dg} (n : Int) (w : World) (h : RelIn B K w p q) :
    Calls Try.prog 17 #[.pointer (some ⟨p, 0, none⟩), .int .i64 n] w (TookIn B K p q n w) := by
  obtain ⟨h1, h2, S, h6, h7⟩ := h
  refine (rtake_any S p q n w h7).mono ?_
  rintro e w' ⟨A, c, rfl, ho, hm, hl⟩
  exact ⟨A, c, rfl, ho.mono (fun i hi => hl.2.1 i hi), ⟨Nat.le_trans h1 hm.size, fun i hi => Nat.lt_of_lt_of_le (h2 i hi) hm.size, S, h6, hl⟩, hm.mono h6⟩

def takesF (q : Nat → List Dg) (n f t : Int) (bs : List Int) : Bool := if takE q n = 0 then sameF (takD q n).f (takD q n).t f t (takD q n).bs bs else false

set_option maxHeartbeats 1000000 in
theorem takes_in {B : Nat} {K T : Nat → Prop} {p : Nat} {q : Nat → List Dg} (n f t : Int) (A : Option Addr) (c : Nat) (bs : List Int) (w : World) (h : RelIn B K w p q) (hr : Rd w T 1 (.slice A bs.length c) bs.length (bts bs)) (hT : ∀ i, T i → i < w.heap.size ∧ (i < B ∨ K i)) :
    Calls Try.prog 27 #[.pointer (some ⟨p, 0, none⟩), .int .i64 n, .agg #[.int .i64 f, .int .i64 t, .slice A bs.length c]] w (DidIn B K p (takQ q n) (.bool (takesF q n f t bs)) w) := by
  have H := Lib.hid h
  have HR := Lib.hid hr
  clear h hr
  unfold takesF
  obtain ⟨f', hf⟩ : ∃ f', f' = (takD q n).f := ⟨_, rfl⟩
  obtain ⟨t', ht⟩ : ∃ t', t' = (takD q n).t := ⟨_, rfl⟩
  obtain ⟨bs', hb⟩ : ∃ bs', bs' = (takD q n).bs := ⟨_, rfl⟩
  obtain ⟨te, hte⟩ : ∃ te, te = takE q n := ⟨_, rfl⟩
  rw [← hf, ← ht, ← hb, ← hte]
  have HF := Lib.hid (And.intro hf (And.intro ht (And.intro hb hte)))
  clear hf ht hb hte
  have hne : ∀ i, T i → i ≠ w.heap.size := fun i hi => by have := (hT i hi).1; omega
  go_enter Try.func27, Try.ntmps27
  go_wp2_with fail
  refine (take_in (K := fun j => K j ∨ j = w.heap.size) n _ (H.out.keep (Ba (B0 w) _) (fun j hj => hj.elim .inr (fun e => .inl (by subst e; simp))))).mono ?_
  rintro e w1 ⟨A1, c1, rfl, ho, hl1, hm1⟩
  rw [← HF.out.1, ← HF.out.2.1, ← HF.out.2.2.1, ← HF.out.2.2.2]
  rw [← HF.out.2.2.1] at ho
  have HO := Lib.hid ho
  have lw : w.heap.size < w1.heap.size := Nat.lt_of_lt_of_le (by simp) hm1.size
  obtain ⟨q0, q1, q2, _⟩ := blk3 ((Blk.new w 31 #[.int .i64 f, .int .i64 t, .slice A bs.length c]).kept hm1 (fun h => h.2 (.inr rfl)))
  have HL := Lib.hid hl1
  have HM := Lib.hid hm1
  clear ho hl1 hm1
  by_cases he : te = 0
  · subst he
    go_wp2_with fail
    refine (same_any (fun j => j < w1.heap.size) T f' t' f t A1 A c1 c bs' bs _ (HO.out.below (Ba (B0 w1) _) (fun _ h => h)) (fun j hj => by simp; omega) ((((HR.out.below (Ba (B0 w) _) (fun j hj => (hT j hj).1)).kept HM.out (fun j hj hs => (hT j hj).2.elim (fun h => by have := hs.1; omega) (fun h => hs.2 (.inl h))))).below (Ba (B0 w1) _) (fun j hj => by have := (hT j hj).1; omega)) (fun j hj => by have := (hT j hj).1; simp; omega)).mono ?_
    rintro e w2 ⟨rfl, hb2⟩
    have HB2 := Lib.hid hb2
    clear hb2
    go_wp2_with fail
    go_ret
    have hb3 : Below w1.heap.size w1 w2 := Bt (Ba (B0 w1) _) HB2.out
    exact ⟨ret_bool (by simp), (HL.out.below hb3).keep (B0 w2) (fun j hj => .inr (.inl hj)), ((((Mod.refl (Stays B K) w).alloc _).trans HM.out (fun j hj => .inl ⟨hj.1, fun hk => hj.2 (.inl hk)⟩)).trans (Mod.of_below (S := Stays B K) hb3) (fun j hj => .inl hj))⟩
  · have he' : (te == 0) = false := by simp [he]
    have HE := Lib.hid he
    clear he
    go_wp2_with fail
    go_ret
    have hb3 : Below w1.heap.size w1 (w1.alloc (.cells #[.int .i64 f', .int .i64 t', .slice A1 bs'.length c1] 31)) := Ba (B0 w1) _
    exact ⟨ret_bool (by simp [HE.out]), (HL.out.below hb3).keep (B0 _) (fun j hj => .inr (.inl hj)), ((((Mod.refl (Stays B K) w).alloc _).trans HM.out (fun j hj => .inl ⟨hj.1, fun hk => hj.2 (.inl hk)⟩)).trans (Mod.of_below (S := Stays B K) hb3) (fun j hj => .inl hj))⟩
end Go.Proofs.Ytdnbbjhickjnmaa
