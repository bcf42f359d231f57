/- The coder that reads: its methods, called by themselves. -/
import Derived.Test.YtnphnaggamfoiaaL0
import Derived.Test.YtnphnaggamfoiaaD1
import Derived.Deep.RegionHeld3
namespace Go.Proofs.Ytnphnaggamfoiaa
open Go.RowKit
set_option maxRecDepth 20000
set_option linter.unusedVariables false
set_option linter.unusedSimpArgs false

theorem set_same' {cs : Array Value} {i : Nat} {v : Value} (h : cs[i]? = some v) : cs.setIfInBounds i v = cs := by
  apply Array.ext_getElem?
  intro j
  by_cases hj : i = j
  · subst hj
    have hi : i < cs.size := (Array.getElem?_eq_some_iff.1 h).1
    rw [Array.getElem?_setIfInBounds_self, if_pos hi, h]
  · rw [Array.getElem?_setIfInBounds_ne hj]
/-- A reader of messages: its blocks T, its own block rb. -/
def RrAt (w : World) (T : Nat → Prop) (rb : Nat) (s : St) : Prop :=
  T rb ∧ (∀ i, T i → i < w.heap.size) ∧ s.Ok ∧ ∃ p S, (∀ i, S i → T i) ∧ ¬ S rb ∧ Blk w rb 76 #[.pointer (some ⟨p, 0, none⟩), .int .i64 s.e] ∧ Wr.RdAt w S p s.l
theorem RrAt.kept {w w' : World} {T G : Nat → Prop} {rb : Nat} {s : St} (h : RrAt w T rb s) (hm : Mod G w w') (hd : ∀ i, T i → ¬ G i) : RrAt w' T rb s := by
  obtain ⟨h1, h2, h3, p, S, h4, h5, h6, h7⟩ := h
  exact ⟨h1, fun i hi => Nat.lt_of_lt_of_le (h2 i hi) hm.size, h3, p, S, h4, h5, h6.kept hm (hd _ h1), h7.kept hm (fun i hi => hd i (h4 i hi))⟩
theorem RrAt.below {w w' : World} {T : Nat → Prop} {rb : Nat} {s : St} (h : RrAt w T rb s) (hb : Below w.heap.size w w') : RrAt w' T rb s :=
  h.kept (Mod.of_below (S := fun _ => False) hb) (fun _ _ h => h)
/-- Behind a call that reads, and writes one block g. -/
def RrDid (T : Nat → Prop) (rb g : Nat) (t : TypeId) (cs : Array Value) (s : St) (w : World) (e : Ending) (w' : World) : Prop :=
  e = .returned (.tuple #[]) ∧ RrAt w' T rb s ∧ Mod (fun i => T i ∨ i = g) w w' ∧ Blk w' g t cs
theorem rr_pair {w w1 : World} {T S : Nat → Prop} {rb p g o : Nat} {t : TypeId} {cs : Array Value} {s s' : St} (hT : T rb) (hl : ∀ i, T i → i < w.heap.size) (hS : ∀ i, S i → T i) (hn : ¬ S rb) (hg : ¬ T g) (hb : Blk w rb 76 #[.pointer (some ⟨p, 0, none⟩), .int .i64 s.e]) (hc : Blk w g t cs)
    (hm : Mod S w w1) (hr : Wr.RdAt w1 S p s'.l) (hok : s'.Ok) (v : Value) :
    RrDid T rb g t (cs.setIfInBounds o v) s' w (.returned (.tuple #[])) ((w1.setCell ⟨g, o, none⟩ v).setCell ⟨rb, 1, none⟩ (.int .i64 s'.e)) := by
  have hgr : g ≠ rb := fun h => hg (h ▸ hT)
  have h1 := hb.kept hm hn
  have h2 := hc.kept hm (fun h => hg (hS g h))
  have m1 : Mod (fun i => i = g ∨ i = rb) w1 ((w1.setCell ⟨g, o, none⟩ v).setCell ⟨rb, 1, none⟩ (.int .i64 s'.e)) :=
    ((Mod.refl (fun i => i = g ∨ i = rb) w1).setCell (p := ⟨g, o, none⟩) (.inl (.inl rfl)) v).setCell (p := ⟨rb, 1, none⟩) (.inl (.inr rfl)) _
  have mt := (hm.mono (T := fun i => T i ∨ i = g) (fun i hi => .inl (hS i hi))).trans m1 (fun i hi => .inl (hi.elim .inr (fun h => .inl (h ▸ hT))))
  refine ⟨rfl, ⟨hT, fun i hi => Nat.lt_of_lt_of_le (hl i hi) mt.size, hok, p, S, hS, hn, ?_, hr.kept m1 (fun i hi h => h.elim (fun h => hg (h ▸ hS i hi)) (fun h => hn (h ▸ hi)))⟩, mt, ?_⟩
  · exact ((h1.far (p := ⟨g, o, none⟩) hgr.symm v).set_ 1 (.int .i64 s'.e))
  · exact (h2.set_ o v).far (p := ⟨rb, 1, none⟩) hgr _

set_option maxHeartbeats 1000000 in
theorem rnum_any (T : Nat → Prop) (rb g o n : Nat) (t : TypeId) (cs : Array Value) (x : Int) (s : St) (w : World) (h : RrAt w T rb s) (hb : Blk w g t cs) (hg : ¬ T g) (hc : cs[o]? = some (.int .i64 x)) :
    Calls Try.prog 48 #[.pointer (some ⟨rb, 0, none⟩), .pointer (some ⟨g, o, none⟩), .int .i64 n] w (RrDid T rb g t (cs.setIfInBounds o (.int .i64 (if s.e = 0 then s.num n else x))) (s.nx n) w) := by
  have h' := h
  obtain ⟨h1, h2, h3, p, S, h4, h5, h6, h7⟩ := h
  obtain ⟨y0, y1, z0, z1⟩ := blk2 h6
  have lr := h6.lt
  have lg := hb.lt
  by_cases h0 : s.e = 0
  · have HA := Lib.hid (And.intro h1 (And.intro h2 (And.intro h3 (And.intro h4 (And.intro h5 (And.intro h6 (And.intro h7 (And.intro hb (And.intro hg (And.intro hc h0))))))))))
    rw [h0] at y1
    rw [if_pos h0]
    have hnx : s.nx n = ⟨Wr.getL s.l n, Wr.getE s.l n⟩ := by unfold St.nx; rw [if_pos h0]
    have hv : s.num n = Wr.getV s.l n := by unfold St.num; rw [if_pos h0]
    rw [hnx, hv]
    clear h' h1 h2 h3 h4 h5 h6 h7 hb hg hc h0 hnx hv
    go_enter Try.func48, Try.ntmps48
    go_wp2_with fail
    refine (Wr.get_any S p s.l n w HA.out.2.2.2.2.2.2.1 HA.out.2.2.1).mono ?_
    rintro e w1 ⟨rfl, hm, hr⟩
    have HM := Lib.hid (And.intro hm hr)
    have B1 := HA.out.2.2.2.2.2.1.kept hm HA.out.2.2.2.2.1
    have B2 := HA.out.2.2.2.2.2.2.2.1.kept hm (fun h => HA.out.2.2.2.2.2.2.2.2.1 (HA.out.2.2.2.1 g h))
    obtain ⟨b0, b1, f0, f1⟩ := blk2 B1
    have c0 := (B2.cell o).trans HA.out.2.2.2.2.2.2.2.2.2.1
    have d0 := B2.frozen o
    have lr1 := B1.lt
    have lg1 := B2.lt
    have hne : g ≠ rb := fun h => HA.out.2.2.2.2.2.2.2.2.1 (h ▸ HA.out.1)
    have hne2 : rb ≠ g := hne.symm
    clear hm hr B1 B2 y0 y1 z0 z1
    go_wp2_with fail
    refine bodyPost_ret (v := .tuple #[]) (by simp [results, Try.results48, go_sem]) rfl ?_
    exact rr_pair (s' := ⟨Wr.getL s.l n, Wr.getE s.l n⟩) HA.out.1 HA.out.2.1 HA.out.2.2.2.1 HA.out.2.2.2.2.1 HA.out.2.2.2.2.2.2.2.2.1 HA.out.2.2.2.2.2.1 HA.out.2.2.2.2.2.2.2.1 HM.out.1 HM.out.2 (Wr.getL_byt HA.out.2.2.1 _) _
  · have hq : (s.e == 0) = false := by simpa using h0
    have HA := Lib.hid (And.intro h' (And.intro hb (And.intro hc h0)))
    rw [if_neg h0, set_same' hc, St.nx_bad h0]
    clear h' h1 h2 h3 h4 h5 h6 h7 hb hg hc h0
    go_enter Try.func48, Try.ntmps48
    go_wp2_with fail
    refine bodyPost_ret (v := .tuple #[]) (by simp [results, Try.results48, go_sem]) rfl ?_
    exact ⟨rfl, HA.out.1, Mod.refl _ _, HA.out.2.1⟩
end Go.Proofs.Ytnphnaggamfoiaa
