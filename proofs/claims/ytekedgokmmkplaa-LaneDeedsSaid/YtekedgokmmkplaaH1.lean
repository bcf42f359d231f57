/- The reference's lane (for LaneDeeds): what it is in memory; New, Cut, Len. -/
import Derived.Test.YtekedgokmmkplaaD1
namespace Go.Proofs.Ytekedgokmmkplaa
open Go.RowKit
set_option maxRecDepth 20000
set_option linter.unusedVariables false
set_option linter.unusedSimpArgs false

/-- The reference's lane at block p: its datagrams, its side; S: all its blocks. -/
def RlAt (w : World) (S : Nat → Prop) (p : Nat) (ds : List Dg) (sd : Int) : Prop :=
  S p ∧ (∀ i, S i → i < w.heap.size) ∧ ∃ (l : List Item) (sl : Value) (T : Nat → Prop) (cs : Array Value), l.map Item.dg = ds ∧ Blk w p 39 cs ∧ cs.size = 65 ∧ cs[0]? = some sl ∧ (∀ a, a < 63 → cs[1 + a]? = some (.bool (sideBit sd a))) ∧ w.ownsRow 0 30 3 sl l.length (rowOf l) ∧
    (∀ k, sl.ownBlock = some k → S k ∧ ¬ T k) ∧ (∀ i, T i → S i ∧ i ≠ p) ∧ ∀ x ∈ l, x.ok w T
theorem RlAt.kept {w w' : World} {S U : Nat → Prop} {p : Nat} {ds : List Dg} {sd : Int} (h : RlAt w S p ds sd) (hm : Mod U w w') (hd : ∀ i, S i → ¬ U i) : RlAt w' S p ds sd := by
  obtain ⟨h1, h2, l, sl, T, cs, h3, h4, h4a, h4b, h4c, h5, h6, h7, h8⟩ := h
  exact ⟨h1, fun i hi => Nat.lt_of_lt_of_le (h2 i hi) hm.size, l, sl, T, cs, h3, h4.kept hm (hd _ h1), h4a, h4b, h4c, own_mod h5 hm (fun k hk => hd _ (h6 k hk).1) (Nat.le_refl _), h6, h7, fun x hx => Item.ok_kept (h8 x hx) hm (fun i hi => hd _ (h7 i hi).1)⟩
theorem RlAt.below {w w' : World} {S : Nat → Prop} {p : Nat} {ds : List Dg} {sd : Int} (h : RlAt w S p ds sd) (hb : Below w.heap.size w w') : RlAt w' S p ds sd :=
  h.kept (Mod.of_below (S := fun _ => False) hb) (fun _ _ h => h)
theorem RlAt.side {w : World} {S : Nat → Prop} {p : Nat} {ds : List Dg} {sd : Int} (h : RlAt w S p ds sd) : SideAt w p sd := by
  obtain ⟨h1, h2, l, sl, T, cs, h3, h4, h4a, h4b, h4c, h5, h6, h7, h8⟩ := h
  exact ⟨cs, h4, h4a, h4c⟩
theorem RlAt.lt {w : World} {S : Nat → Prop} {p : Nat} {ds : List Dg} {sd : Int} (h : RlAt w S p ds sd) : ∀ i, S i → i < w.heap.size := h.2.1
/-- Behind a call on the reference's lane. -/
def RDid (S : Nat → Prop) (p : Nat) (ds : List Dg) (sd : Int) (v : Value) (w : World) (e : Ending) (w' : World) : Prop :=
  e = .returned v ∧ ∃ S', Mod S w w' ∧ RlAt w' S' p ds sd ∧ ∀ i, S' i → S i ∨ w.heap.size ≤ i
theorem RDid.same {w w' : World} {S : Nat → Prop} {p : Nat} {ds : List Dg} {sd : Int} {v : Value} (h : RlAt w S p ds sd) (hb : Below w.heap.size w w') : RDid S p ds sd v w (.returned v) w' :=
  ⟨rfl, S, Mod.of_below hb, h.below hb, fun _ hi => .inl hi⟩

theorem rlnew_any (w : World) : Calls Try.prog 13 #[] w fun e w' => e = .returned (.pointer (some ⟨w.heap.size, 0, none⟩)) ∧ Below w.heap.size w w' ∧ RlAt w' (fun k => k = w.heap.size) w.heap.size [] 0 := by
  refine (refnew_any w).mono ?_
  rintro e w' ⟨he, hb, ⟨cs, hk, hs, hc⟩, h0⟩
  refine ⟨he, hb, rfl, fun i hi => by subst hi; exact hk.lt, [], .slice none 0 0, fun _ => False, cs, rfl, hk, hs, ?_, hc, World.ownsRow_nil _ _ _ _, by simp [Value.ownBlock], fun i h => h.elim, by simp⟩
  rw [← hk.cell 0]
  exact h0

theorem rlcut_any (S : Nat → Prop) (p : Nat) (ds : List Dg) (sd side : Int) (w : World) (h : RlAt w S p ds sd) (hs : side < 9223372036854775808) :
    Calls Try.prog 23 #[.pointer (some ⟨p, 0, none⟩), .int .i64 side] w (RDid S p ds (cutS sd side) (.int .i64 (cutE side)) w) := by
  refine (refcut_any p sd side w h.side hs).mono ?_
  rintro e w' ⟨rfl, hm, ⟨cs', hk, hs', hc'⟩, h0⟩
  obtain ⟨h1, h2, l, sl, T, cs, h3, h4, h4a, h4b, h4c, h5, h6, h7, h8⟩ := h
  refine ⟨rfl, S, hm.mono (fun i hi => by subst hi; exact h1), ⟨h1, fun i hi => Nat.lt_of_lt_of_le (h2 i hi) hm.size, l, sl, T, cs', h3, hk, hs', ?_, hc', own_mod h5 hm ?_ (Nat.le_refl _), h6, h7, fun x hx => Item.ok_kept (h8 x hx) hm (fun i hi e => (h7 i hi).2 e)⟩, fun i hi => .inl hi⟩
  · rw [← hk.cell 0, h0, h4.cell 0, h4b]
  · intro k hk2 e
    subst e
    exact own_ne_blk h5 h4 (show (30 : TypeId) ≠ 39 by decide) hk2

theorem rllen_any (S : Nat → Prop) (p : Nat) (ds : List Dg) (sd : Int) (w : World) (h : RlAt w S p ds sd) :
    Calls Try.prog 36 #[.pointer (some ⟨p, 0, none⟩)] w fun e w' => e = .returned (.int .i64 ds.length) ∧ w = w' := by
  obtain ⟨h1, h2, l, sl, T, cs, h3, h4, h4a, h4b, h4c, h5, h6, h7, h8⟩ := h
  obtain ⟨As, k, rfl⟩ := own_slice h5
  have hll : ds.length = l.length := by rw [← h3]; simp
  have q0 := (h4.cell 0).trans h4b
  have HH := Lib.hid hll
  clear h1 h2 h3 h4 h4a h4b h4c h5 h6 h7 h8 hll
  go_enter Try.func36, Try.ntmps36
  go_wp2_with fail
  go_ret
  exact ⟨by rw [HH.out]; rfl, rfl⟩

end Go.Proofs.Ytekedgokmmkplaa
