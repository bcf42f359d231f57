/- The relay's Put, whatever comes. -/
import Derived.Test.YtdnbbjhickjnmaaR6
namespace Go.Proofs.Ytdnbbjhickjnmaa
open Go.RowKit
set_option maxRecDepth 20000
set_option linter.unusedVariables false
set_option linter.unusedSimpArgs false

theorem put_chk (p : Nat) (f t : Int) (A : Option Addr) (m c : Nat) (vs : Nat → Value) (w : World) (hb : Blk w p 78 (relCells vs)) (hc : chkE f t m ≠ 0) :
    Calls Try.prog 16 #[.pointer (some ⟨p, 0, none⟩), .agg #[.int .i64 f, .int .i64 t, .slice A m c]] w fun e w' => e = .returned (.int .i64 (chkE f t m)) ∧ Below w.heap.size w w' := by
  have q0 : w.cell? ⟨p, 0, none⟩ = some (.bool true) := hb.cell 0
  have lp := hb.lt
  obtain ⟨ce, hce⟩ : ∃ ce, ce = chkE f t m := ⟨_, rfl⟩
  have hne : (ce == 0) = false := by rw [hce, beq_eq_false_iff_ne]; exact hc
  rw [← hce]
  have HC := Lib.hid hce
  clear hb hc hce
  go_enter Try.func16, Try.ntmps16
  go_wp2_with fail
  refine (check_any f t A m c _).mono ?_
  rintro e w1 ⟨rfl, hb1⟩
  rw [← HC.out]
  go_wp2_with fail
  go_ret
  exact ⟨rfl, Bt (Ba (B0 w) _) hb1⟩

theorem put_full (p k : Nat) (f : Int) (A As : Option Addr) (n cs c m : Nat) (vs : Nat → Value) (w : World) (hb : Blk w p 78 (relCells vs)) (hk : k < 9) (hv : vs k = .slice As n cs) (hn : n = 16) (hc : chkE f k m = 0) :
    Calls Try.prog 16 #[.pointer (some ⟨p, 0, none⟩), .agg #[.int .i64 f, .int .i64 k, .slice A m c]] w fun e w' => e = .returned (.int .i64 7) ∧ Below w.heap.size w w' := by
  have q0 : w.cell? ⟨p, 0, none⟩ = some (.bool true) := hb.cell 0
  have lp := hb.lt
  have q1 := (hb.cell (1 + k)).trans (relCells_at vs k hk)
  rw [hv] at q1
  have hn1 : ((n : Int) == 16) = true := by rw [beq_iff_eq]; omega
  have HC := Lib.hid hc
  have k0 : (0 : Int) ≤ (k : Int) := by omega
  have k1 : (k : Int) < 9 := by omega
  clear hb hc hv hn
  go_enter Try.func16, Try.ntmps16
  go_wp2_with fail
  refine (check_any f k A m c _).mono ?_
  rintro e w1 ⟨rfl, hb1⟩
  rw [HC.out]
  have HBW := Lib.hid (Bt (Ba (B0 w) _) hb1)
  have q1' : w1.cell? ⟨p, 1 + k, none⟩ = some (.slice As n cs) := (HBW.out.cell lp).trans q1
  obtain ⟨f0, f1, f2, g0, g1, g2⟩ := blk3 ((Blk.new w 31 #[.int .i64 f, .int .i64 k, .slice A m c]).later hb1)
  clear hb1 q1 q0
  go_wp2_with fail
  go_quiet (fail)
  go_wp2_with fail
  go_ret
  exact ⟨rfl, BdN HBW.out nq⟩

def rputE (q : Nat → List Dg) (f t : Int) (n : Nat) : Int := if chkE f t n = 0 then (if (q t.toNat).length = 16 then 7 else 0) else chkE f t n
def rputQ (q : Nat → List Dg) (f t : Int) (bs : List Int) : Nat → List Dg := if rputE q f t bs.length = 0 then upd q t.toNat (q t.toNat ++ [⟨f, t, bs⟩]) else q

theorem chk_ok {f t : Int} {n : Nat} (h : chkE f t n = 0) : nodeB f = true ∧ nodeB t = true ∧ n ≤ 4608 := by
  unfold chkE at h
  split at h
  · rename_i hb
    simp only [Bool.and_eq_true] at hb
    refine ⟨hb.1.1, hb.1.2, ?_⟩
    split at h
    · cases h
    · omega
  · cases h

theorem rput_any (S T : Nat → Prop) (p : Nat) (q : Nat → List Dg) (f t : Int) (A : Option Addr) (c : Nat) (bs : List Int) (w : World) (h : RelAt w S p q) (hr : Rd w T 1 (.slice A bs.length c) bs.length (bts bs)) (hT : ∀ i, T i → i < w.heap.size) :
    Calls Try.prog 16 #[.pointer (some ⟨p, 0, none⟩), .agg #[.int .i64 f, .int .i64 t, .slice A bs.length c]] w (Did S p (rputQ q f t bs) (.int .i64 (rputE q f t bs.length)) w) := by
  have h0 := h
  obtain ⟨h1, h2, h2', ls, vs, U, h3, h4, h5, h6, h6', h7, h8⟩ := h
  unfold rputQ rputE
  by_cases hc : chkE f t bs.length = 0
  · obtain ⟨_, hnt, hl⟩ := chk_ok hc
    obtain ⟨k, rfl, k0, k1⟩ := node_nat hnt
    simp only [hc, if_true, Int.toNat_natCast]
    obtain ⟨As, cs, hv⟩ := own_slice (h5 k k1)
    have hll : (ls k).length = (q k).length := by rw [← h3 k k1]; simp
    by_cases hn : (q k).length = 16
    · simp only [hn, if_true, show ¬ ((7 : Int) = 0) from by omega, if_false]
      exact (put_full p k f A As _ cs c _ vs w h4 k1 hv (by omega) hc).mono fun e w' ⟨he, hb⟩ => by subst he; exact Did.same h0 hb
    · simp only [hn, if_false, if_true]
      have hok := h5 k k1
      rw [hv] at hok
      have hlen := h2' k k1
      refine (put_ok p k f A As (ls k).length cs c bs T _ vs w h4 k1 hv hok (by omega) hr hT hl hc).mono ?_
      rintro e w' ⟨rfl, A1, c1, v2, W, w1, W1, w2, hW, hlW, HF, hM, HA, rfl⟩
      have hlt : ∀ i, S i → i < w1.heap.size := fun i hi => Nat.lt_of_lt_of_le (h2 i hi) (Nat.le_trans hW.size HF.kept.size)
      have hb1 : Below w.heap.size w w1 := Bt hW HF.kept
      have hbM : Below w.heap.size w W1 := Bm hb1 hM (fun i hi => by omega)
      have hob : ∀ i, (Value.slice As (ls k).length cs).ownBlock = some i → S i ∧ ¬ U i := fun i hi => h6 k i k1 (by rw [hv]; exact hi)
      have hm2' : Mod (fun i => (Value.slice As (ls k).length cs).ownBlock = some i) W1 w2 := (Mod.refl _ _).grown HA.grown (fun k hk => .inl hk)
      have hm3 : Mod (fun i => (Value.slice As (ls k).length cs).ownBlock = some i ∨ i = p) W1 (w2.setCell ⟨p, 1 + k, none⟩ v2) := (hm2'.mono (fun i hi => .inl hi)).setCell (.inl (.inr rfl)) _
      have hp2 : Blk w2 p 78 (relCells vs) := (h4.later hbM).kept hm2' (fun h => own_ne_blk hok h4 (show (31 : TypeId) ≠ 78 by decide) h)
      have hown := HA.own
      have hW1 : w.heap.size ≤ W1.heap.size := hbM.size
      have hv2 : ∀ i, v2.ownBlock = some i → i = W1.heap.size ∨ (Value.slice As (ls k).length cs).ownBlock = some i := by
        intro i hi
        rcases HA.at_ with e | e
        · exact .inr (e ▸ hi)
        · left
          rw [e] at hi
          injection hi with hi
          exact hi.symm
      have hsz : W1.heap.size ≤ w2.heap.size := hm2'.size
      have hpU : ∀ i, U i → ¬ ((Value.slice As (ls k).length cs).ownBlock = some i ∨ i = p) := fun i hi hh => hh.elim (fun h => (hob i h).2 hi) (fun h => (h7 i hi).2 h)
      have hw1 : w.heap.size ≤ w1.heap.size := hb1.size
      have hw1W : w1.heap.size ≤ W1.heap.size := hM.size
      have hlp := h2 p h1
      have hWs := hW.size
      refine ⟨rfl, fun i => S i ∨ (w.heap.size ≤ i ∧ i < w2.heap.size), ?_, ?_, fun i hi => hi.imp id And.left⟩
      · exact (Mod.of_below (S := S) hbM).trans hm3 (fun i hi => by
          rcases hi with hi | rfl
          · exact .inl (hob i hi).1
          · exact .inl h1)
      · refine ⟨.inl h1, ?_, ?_, upd ls k (ls k ++ [⟨f, k, A1, c1, bs⟩]), upd vs k v2, fun i => U i ∨ (Value.slice A1 bs.length c1).ownBlock = some i, ?_, ?_, ?_, ?_, ?_, ?_, ?_⟩
        · intro i hi
          simp only [World.size_setCell]
          rcases hi with hi | hi
          · have := h2 i hi; omega
          · exact hi.2
        · intro n hn'
          by_cases e : n = k
          · subst e; rw [upd_same]; simp; omega
          · rw [upd_ne _ _ e]; exact h2' n hn'
        · intro n hn'
          by_cases e : n = k
          · subst e; rw [upd_same, upd_same]; simp [h3 n hn', Item.dg]
          · rw [upd_ne _ _ e, upd_ne _ _ e]; exact h3 n hn'
        · have := hp2.set_ (1 + k) v2
          rwa [relCells_set vs k k1] at this
        · intro n hn'
          by_cases e : n = k
          · subst e
            rw [upd_same, upd_same, rowOf_append, List.length_append]
            refine own_mod (T := fun i => i = p) hown ((Mod.refl (fun i => i = p) w2).setCell (.inl rfl) _) ?_ (Nat.le_refl _)
            intro i hi hip
            subst hip
            exact own_ne_blk hown hp2 (show (31 : TypeId) ≠ 78 by decide) hi
          · rw [upd_ne _ _ e, upd_ne _ _ e]
            refine own_mod (own_below (h5 n hn') hbM) hm3 ?_ (Nat.le_refl _)
            rintro i hi (hh | rfl)
            · exact e (h6' n k i hn' k1 hi (by rw [hv]; exact hh))
            · exact own_ne_blk (h5 n hn') h4 (show (31 : TypeId) ≠ 78 by decide) hi
        · intro n i hn' hi
          by_cases e : n = k
          · subst e
            rw [upd_same] at hi
            have hi2 := own_lt hown i hi
            rcases hv2 i hi with rfl | hi'
            · refine ⟨.inr ⟨hW1, hi2⟩, ?_⟩
              rintro (hu | hu)
              · have := h2 _ (h7 _ hu).1; omega
              · have := own_lt HF.own _ hu; omega
            · refine ⟨.inl (hob i hi').1, ?_⟩
              rintro (hu | hu)
              · exact (hob i hi').2 hu
              · have := own_ge HF.own _ hu; have := h2 i (hob i hi').1; omega
          · rw [upd_ne _ _ e] at hi
            refine ⟨.inl (h6 n i hn' hi).1, ?_⟩
            rintro (hu | hu)
            · exact (h6 n i hn' hi).2 hu
            · have := own_ge HF.own _ hu; have := h2 i (h6 n i hn' hi).1; omega
        · intro n m i hn' hm' hi hi'
          by_cases e : n = k
          · by_cases e' : m = k
            · omega
            · subst e
              rw [upd_same] at hi
              rw [upd_ne _ _ e'] at hi'
              exfalso
              rcases hv2 i hi with rfl | hh
              · have := h2 _ (h6 m _ hm' hi').1; omega
              · exact e' (h6' m n i hm' hn' hi' (by rw [hv]; exact hh))
          · rw [upd_ne _ _ e] at hi
            by_cases e' : m = k
            · subst e'
              rw [upd_same] at hi'
              exfalso
              rcases hv2 i hi' with rfl | hh
              · have := h2 _ (h6 n _ hn' hi).1; omega
              · exact e (h6' n m i hn' hm' hi (by rw [hv]; exact hh))
            · rw [upd_ne _ _ e'] at hi'
              exact h6' n m i hn' hm' hi hi'
        · intro i hi
          rcases hi with hi | hi
          · exact ⟨.inl (h7 i hi).1, (h7 i hi).2⟩
          · have h9 := own_ge HF.own i hi
            have h10 := own_lt HF.own i hi
            exact ⟨.inr ⟨by omega, by omega⟩, by omega⟩
        · have key : ∀ n, n < 9 → ∀ x ∈ ls n, x.ok (w2.setCell ⟨p, 1 + k, none⟩ v2) (fun i => U i ∨ (Value.slice A1 bs.length c1).ownBlock = some i) := fun n hn' x hx =>
            Item.ok_mono (Item.ok_kept (Item.ok_kept (h8 n hn' x hx) (Mod.of_below (S := fun _ => False) hbM) (fun _ _ h => h)) hm3 hpU) (fun i hi => .inl hi)
          intro n hn' x hx
          by_cases e : n = k
          · subst e
            rw [upd_same] at hx
            rcases List.mem_append.1 hx with hx | hx
            · exact key n hn' x hx
            · simp only [List.mem_singleton] at hx
              subst hx
              refine ⟨?_, by show bs.length ≤ _; omega⟩
              have h9 := (Rd.of_own HF.own).kept hM (fun i hi he => by have := own_ge HF.own i hi; subst he; omega)
              refine (h9.kept hm3 ?_).mono (fun i hi => .inr hi)
              rintro i hi (hh | rfl)
              · have := own_ge HF.own _ hi; have := h2 i (hob i hh).1; omega
              · have := own_ge HF.own _ hi; omega
          · rw [upd_ne _ _ e] at hx
            exact key n hn' x hx
  · have hne : chkE f t bs.length ≠ 0 := hc
    simp only [hc, if_false]
    exact (put_chk p f t A _ c vs w h4 hc).mono fun e w' ⟨he, hb⟩ => by subst he; exact Did.same h0 hb
end Go.Proofs.Ytdnbbjhickjnmaa
