/- The reference's relay: Put, whatever comes. -/
import Derived.Test.YtdnbbjhickjnmaaR17
namespace Go.Proofs.Ytdnbbjhickjnmaa
open Go.RowKit
set_option maxRecDepth 20000
set_option linter.unusedVariables false
set_option linter.unusedSimpArgs false

def refputE (ds : List Dg) (f t : Int) (n : Nat) : Int := if chkE f t n = 0 then (if cntF ds t = 16 then 7 else 0) else chkE f t n
def refputL (ds : List Dg) (f t : Int) (bs : List Int) : List Dg := if refputE ds f t bs.length = 0 then ds ++ [⟨f, t, bs⟩] else ds
/-- Behind a call on the reference's relay. -/
def RDid (S : Nat → Prop) (p : Nat) (ds : List Dg) (v : Value) (w : World) (e : Ending) (w' : World) : Prop :=
  e = .returned v ∧ ∃ S', Mod S w w' ∧ RrAt w' S' p ds ∧ ∀ i, S' i → S i ∨ w.heap.size ≤ i
theorem RDid.same {w w' : World} {S : Nat → Prop} {p : Nat} {ds : List Dg} {v : Value} (h : RrAt w S p ds) (hb : Below w.heap.size w w') : RDid S p ds v w (.returned v) w' :=
  ⟨rfl, S, Mod.of_below hb, h.below hb, fun _ hi => .inl hi⟩

theorem refput_chk (p : Nat) (f t : Int) (A : Option Addr) (m c : Nat) (w : World) (hc : chkE f t m ≠ 0) :
    Calls Try.prog 21 #[.pointer (some ⟨p, 0, none⟩), .agg #[.int .i64 f, .int .i64 t, .slice A m c]] w fun e w' => e = .returned (.int .i64 (chkE f t m)) ∧ Below w.heap.size w w' := by
  obtain ⟨ce, hce⟩ : ∃ ce, ce = chkE f t m := ⟨_, rfl⟩
  have hne : (ce == 0) = false := by rw [hce, beq_eq_false_iff_ne]; exact hc
  rw [← hce]
  have HC := Lib.hid hce
  clear hc hce
  go_enter Try.func21, Try.ntmps21
  go_wp2_with fail
  refine (refcheck_any f t A m c _).mono ?_
  rintro e w1 ⟨rfl, hb1⟩
  rw [← HC.out]
  go_wp2_with fail
  go_ret
  exact ⟨rfl, Bt (Ba (B0 w) _) hb1⟩
theorem refput_full (S : Nat → Prop) (p : Nat) (ds : List Dg) (f t : Int) (A : Option Addr) (m c : Nat) (w : World) (h : RrAt w S p ds) (hmost : ds.length ≤ 4095) (hc : chkE f t m = 0) (hn : cntF ds t = 16) :
    Calls Try.prog 21 #[.pointer (some ⟨p, 0, none⟩), .agg #[.int .i64 f, .int .i64 t, .slice A m c]] w fun e w' => e = .returned (.int .i64 7) ∧ Below w.heap.size w w' := by
  have H := Lib.hid h
  have HC := Lib.hid hc
  have HN := Lib.hid hn
  clear h hc hn
  go_enter Try.func21, Try.ntmps21
  go_wp2_with fail
  refine (refcheck_any f t A m c _).mono ?_
  rintro e w1 ⟨rfl, hb1⟩
  rw [HC.out]
  have HBW := Lib.hid (Bt (Ba (B0 w) _) hb1)
  obtain ⟨f0, f1, f2, _⟩ := blk3 ((Blk.new w 31 #[.int .i64 f, .int .i64 t, .slice A m c]).later hb1)
  clear hb1
  go_wp2_with fail
  refine (reflen_any S p ds t _ (H.out.below HBW.out) (by omega)).mono ?_
  rintro e w' ⟨rfl, rfl⟩
  rw [HN.out]
  go_wp2_with fail
  go_ret
  exact ⟨rfl, HBW.out⟩

theorem refput_any (S T : Nat → Prop) (p : Nat) (ds : List Dg) (f t : Int) (A : Option Addr) (c : Nat) (bs : List Int) (w : World) (h : RrAt w S p ds) (hmost : ds.length ≤ 4095) (hr : Rd w T 1 (.slice A bs.length c) bs.length (bts bs)) (hT : ∀ i, T i → i < w.heap.size) :
    Calls Try.prog 21 #[.pointer (some ⟨p, 0, none⟩), .agg #[.int .i64 f, .int .i64 t, .slice A bs.length c]] w (RDid S p (refputL ds f t bs) (.int .i64 (refputE ds f t bs.length)) w) := by
  have h0 := h
  obtain ⟨h1, h2, l, sl, U, h3, h4, h5, h6, h7, h8⟩ := h
  obtain ⟨As, cs, rfl⟩ := own_slice h5
  unfold refputL refputE
  by_cases hc : chkE f t bs.length = 0
  · have hbl := (chk_ok hc).2.2
    by_cases hn : cntF ds t = 16
    · simp only [hc, hn, if_true, show ¬ ((7 : Int) = 0) from by omega, if_false]
      exact (refput_full S p ds f t A _ c w h0 hmost hc hn).mono fun e w' ⟨he, hb⟩ => by subst he; exact RDid.same h0 hb
    · simp only [hc, hn, if_true, if_false]
      refine (refput_ok S p ds f t A c bs T w h0 hmost hr hT hc hn l As cs h3 h4 h5).mono ?_
      rintro e w' ⟨rfl, A1, c1, v2, w1, w2, W, hW, HF, HA, rfl⟩
      have hlt : ∀ i, S i → i < w1.heap.size := fun i hi => Nat.lt_of_lt_of_le (h2 i hi) (Nat.le_trans hW.size HF.kept.size)
      have hb1 : Below w.heap.size w w1 := Bt hW HF.kept
      have hmA : Mod (fun k => (Value.slice As l.length cs).ownBlock = some k) (w1.alloc (.cells #[.int .i64 f, .int .i64 t, .slice A1 bs.length c1] 31)) w2 := (Mod.refl _ _).grown HA.grown (fun k hk => .inl hk)
      have hm2 : Mod (fun k => (Value.slice As l.length cs).ownBlock = some k) w1 w2 := ((Mod.refl _ _).alloc _).trans hmA (fun i hi => .inl hi)
      have hm3 : Mod (fun k => (Value.slice As l.length cs).ownBlock = some k ∨ k = p) w1 (w2.setCell ⟨p, 0, none⟩ v2) := (hm2.mono (fun i hi => .inl hi)).setCell (.inl (.inr rfl)) _
      have hp2 : Blk w2 p 83 #[.slice As l.length cs] := (h4.later hb1).kept hm2 (fun h => own_ne_blk h5 h4 (show (31 : TypeId) ≠ 83 by decide) h)
      have hown := HA.own
      have hv2 : ∀ k, v2.ownBlock = some k → k = w1.heap.size + 1 ∨ (Value.slice As l.length cs).ownBlock = some k := by
        intro k hk
        rcases HA.at_ with e | e
        · exact .inr (e ▸ hk)
        · left
          rw [e] at hk
          injection hk with hk
          simp at hk
          exact hk.symm
      refine ⟨rfl, fun k => S k ∨ (w.heap.size ≤ k ∧ k < w2.heap.size), ?_, ?_, fun i hi => hi.imp id And.left⟩
      · exact (Mod.of_below (S := S) hb1).trans hm3 (fun i hi => by
          rcases hi with hi | rfl
          · exact .inl (h6 i hi).1
          · exact .inl h1)
      · have hp : p < w1.heap.size := hlt p h1
        have hsz : w1.heap.size ≤ w2.heap.size := hm2.size
        refine ⟨.inl h1, ?_, l ++ [⟨f, t, A1, c1, bs⟩], v2, fun k => U k ∨ (w.heap.size ≤ k ∧ k < w1.heap.size), by simp [h3, Item.dg], ?_, ?_, ?_, ?_, ?_⟩
        · intro i hi
          simp only [World.size_setCell]
          rcases hi with hi | hi
          · exact Nat.lt_of_lt_of_le (hlt i hi) hsz
          · exact hi.2
        · exact (by simpa using hp2.set_ 0 v2)
        · rw [rowOf_append, List.length_append]
          refine own_mod (T := fun k => k = p) hown ((Mod.refl (fun k => k = p) w2).setCell (.inl rfl) _) ?_ (Nat.le_refl _)
          intro k hk hkp
          subst hkp
          exact own_ne_blk hown hp2 (show (31 : TypeId) ≠ 83 by decide) hk
        · intro k hk
          have hk2 := own_lt hown k hk
          rcases hv2 k hk with rfl | hk'
          · refine ⟨.inr ⟨?_, hk2⟩, ?_⟩
            · have := hb1.size; omega
            · rintro (hu | hu)
              · have := hlt _ (h7 _ hu).1; omega
              · omega
          · refine ⟨.inl (h6 k hk').1, ?_⟩
            rintro (hu | hu)
            · exact (h6 k hk').2 hu
            · have := h2 k (h6 k hk').1; omega
        · intro i hi
          rcases hi with hi | hi
          · exact ⟨.inl (h7 i hi).1, (h7 i hi).2⟩
          · exact ⟨.inr ⟨hi.1, by omega⟩, by have := h2 p h1; omega⟩
        · intro x hx
          rcases List.mem_append.1 hx with hx | hx
          · refine Item.ok_mono ?_ (fun i hi => .inl hi)
            have h9 := Item.ok_kept (h8 x hx) (Mod.of_below (S := fun _ => False) hb1) (fun _ _ h => h)
            refine Item.ok_kept h9 hm3 ?_
            rintro i hi (hk | rfl)
            · exact (h6 i hk).2 hi
            · exact (h7 _ hi).2 rfl
          · simp only [List.mem_singleton] at hx
            subst hx
            refine ⟨?_, by show bs.length ≤ _; omega⟩
            have h9 : Rd w1 (fun k => w.heap.size ≤ k ∧ k < w1.heap.size) 1 (.slice A1 bs.length c1) bs.length (bts bs) :=
              (Rd.of_own HF.own).mono (fun i hi => ⟨Nat.le_trans hW.size (own_ge HF.own i hi), own_lt HF.own i hi⟩)
            refine (h9.kept hm3 ?_).mono (fun i hi => .inr hi)
            rintro i hi (hk | rfl)
            · have := h2 i (h6 i hk).1; omega
            · have := h2 i h1; omega
  · simp only [hc, if_false]
    exact (refput_chk p f t A _ c w hc).mono fun e w' ⟨he, hb⟩ => by subst he; exact RDid.same h0 hb
end Go.Proofs.Ytdnbbjhickjnmaa
