/- The lane's methods: Put, Len, Cut, Double, Take, Reaches. -/
import Derived.Test.YtekedgokmmkplaaA5
import Derived.Deep.RegionLaw
namespace Go.Proofs.Ytekedgokmmkplaa
open Go.RowKit
set_option linter.unusedVariables false
set_option linter.unusedSimpArgs false

/-- What Put does where there is room. -/
def PutOut (p : Nat) (f t : Int) (sl : Value) (n : Nat) (bs : List Int) (xs : List Value) (w : World) (e : Ending) (w' : World) : Prop :=
  e = .returned (.int .i64 0) ∧ ∃ A1 c1 v2 w1 w2 W, Below w.heap.size w W ∧ Fresh W w1 A1 c1 bs ∧ Appended (w1.alloc (.cells #[.int .i64 f, .int .i64 t, .slice A1 bs.length c1] 30)) 0 30 3 sl (n + 1) (xs ++ [.int .i64 f, .int .i64 t, .slice A1 bs.length c1]) v2 w2 ∧ w' = w2.setCell ⟨p, 1, none⟩ v2

set_option maxHeartbeats 1000000 in
theorem put_ok (p : Nat) (f t sd : Int) (A As : Option Addr) (n cs c : Nat) (bs : List Int) (T : Nat → Prop) (xs : List Value) (w : World) (hb : Blk w p 59 #[.bool true, .slice As n cs, .int .i64 sd]) (ho : w.ownsRow 0 30 3 (.slice As n cs) n xs) (hn : n < 4096)
    (hr : Rd w T 1 (.slice A bs.length c) bs.length (bts bs)) (hT : ∀ i, T i → i < w.heap.size) (hl : bs.length ≤ 140737488355328) (hf : adr f = true) (ht : adr t = true) (hne : (f == t) = false) :
    Calls Try.prog 16 #[.pointer (some ⟨p, 0, none⟩), .agg #[.int .i64 f, .int .i64 t, .slice A bs.length c]] w (PutOut p f t (.slice As n cs) n bs xs w) := by
  obtain ⟨i0, hi0, hz0, hz1, hz2⟩ := info_parts info30
  have HB := Lib.hid hb
  obtain ⟨q0, q1, q2, z0, z1, z2⟩ := blk3 hb
  clear hb
  have HO := Lib.hid ho
  have HR := Lib.hid hr
  clear ho hr
  have lp := HB.out.lt
  have hn1 : ((n : Int) == 4096) = false := by simp; omega
  have HF := Lib.hid hf
  have HT := Lib.hid ht
  clear hf ht
  go_enter Try.func16, Try.ntmps16
  go_wp2_with (first
    | (go_at_call 37; refine (none_any p _ sd _ (Blk.alloc HB.out _)).mono ?_; rintro e w' ⟨rfl, rfl⟩)
    | (go_at_call_of 38 f; refine (lane_address f _).mono ?_; rintro e w' ⟨rfl, rfl⟩; rw [HF.out])
    | (go_at_call_of 38 t; refine (lane_address t _).mono ?_; rintro e w' ⟨rfl, rfl⟩; rw [HT.out]))
  go_region_law (first
    | (go_simp; go_at_call 39; refine (own_any T A c f t bs _ (HR.out.below (Bd (Ba (B0 w) _)) hT) (fun i hi => by have := hT i hi; simp; omega) hl).mono ?_; rintro e w1 ⟨A1, c1, rfl, HF⟩; have lp1 : p < w1.heap.size := Nat.lt_of_lt_of_le lp (Bt (Bd (Ba (B0 w) _)) HF.kept).size; have q1' := cell_later (a := ⟨p, 1, none⟩) (v := .slice As n cs) HF.kept (by simp [go_sem, World.cell?_alloc_lt, lp, q1]); have HO1 := Lib.hid ((own_below HO.out (Bt (Bd (Ba (B0 w) _)) HF.kept)).alloc (.cells #[.int .i64 f, .int .i64 t, .slice A1 bs.length c1] 30)); have HN1 := Lib.hid (Rd.box w1 30 [.int .i64 f, .int .i64 t, .slice A1 bs.length c1] 3 rfl))
    | (refine step_append_rd _ rfl (.tmp 37) (.tmp 40) 36 rfl 0 30 i0 (.agg #[.int .i64 0, .int .i64 0, .slice none 0 0]) 3 40 Try.underlying36 hi0 hz0 hz1 hz2 rfl (by omega) (.slice As n cs) n xs (by simp [Act.eval, Act.put]) HO1.out (fun k => k = w1.heap.size) (.slice (some ⟨w1.heap.size, 0, none⟩) 1 1) 1 [.int .i64 f, .int .i64 t, .slice A1 bs.length c1] (by simp [Act.eval, Act.put]) HN1.out (by simp [Value.oneCell']) (by simp only [maxLen]; omega) (by omega) (Nat.zero_le _) ?_; intro v2 w2 HA; obtain ⟨A2, c2, rfl⟩ := own_slice HA.own; have HBp := Blk.grown (Blk.alloc (HB.out.later (Bt (Bd (Ba (B0 w) _)) HF.kept)) _) HA.grown (own_ne_blk HO.out HB.out (show (30 : TypeId) ≠ 59 by decide)).symm; obtain ⟨p0, p1, p2, k0, k1, k2⟩ := blk3 HBp))
  all_goals
    go_wp2
    go_ret
    exact ⟨rfl, A1, c1, _, w1, w2, _, Bd (Ba (B0 w) _), HF, HA, rfl⟩

def putE (ds : List Dg) (f t : Int) : Int := if (adr f && adr t && !(f == t)) = true then (if ds.length = 4096 then 7 else 0) else 2
def putL (ds : List Dg) (f t : Int) (bs : List Int) : List Dg := if putE ds f t = 0 then ds ++ [⟨f, t, bs⟩] else ds

theorem put_full (p : Nat) (f t sd : Int) (A As : Option Addr) (n cs c : Nat) (m : Nat) (xs : List Value) (w : World) (hb : Blk w p 59 #[.bool true, .slice As n cs, .int .i64 sd]) (hn : n = 4096)
    (hf : adr f = true) (ht : adr t = true) (hne : (f == t) = false) :
    Calls Try.prog 16 #[.pointer (some ⟨p, 0, none⟩), .agg #[.int .i64 f, .int .i64 t, .slice A m c]] w fun e w' => e = .returned (.int .i64 7) ∧ Below w.heap.size w w' := by
  have HB := Lib.hid hb
  obtain ⟨q0, q1, q2, z0, z1, z2⟩ := blk3 hb
  clear hb
  have lp := HB.out.lt
  have hn1 : ((n : Int) == 4096) = true := by simp; omega
  have HF := Lib.hid hf
  have HT := Lib.hid ht
  clear hf ht hn
  go_enter Try.func16, Try.ntmps16
  go_wp2_with (first
    | (go_at_call 37; refine (none_any p _ sd _ (Blk.alloc HB.out _)).mono ?_; rintro e w' ⟨rfl, rfl⟩)
    | (go_at_call_of 38 f; refine (lane_address f _).mono ?_; rintro e w' ⟨rfl, rfl⟩; rw [HF.out])
    | (go_at_call_of 38 t; refine (lane_address t _).mono ?_; rintro e w' ⟨rfl, rfl⟩; rw [HT.out]))
  go_ret
  exact ⟨rfl, Ba (B0 w) _⟩

theorem put_arg (p : Nat) (f t sd : Int) (A As : Option Addr) (n cs c : Nat) (m : Nat) (w : World) (hb : Blk w p 59 #[.bool true, .slice As n cs, .int .i64 sd]) (h : (adr f && adr t && !(f == t)) = false) :
    Calls Try.prog 16 #[.pointer (some ⟨p, 0, none⟩), .agg #[.int .i64 f, .int .i64 t, .slice A m c]] w fun e w' => e = .returned (.int .i64 2) ∧ Below w.heap.size w w' := by
  have HB := Lib.hid hb
  obtain ⟨q0, q1, q2, z0, z1, z2⟩ := blk3 hb
  clear hb
  have lp := HB.out.lt
  cases hf : adr f
  · have HF := Lib.hid hf
    clear hf h
    go_enter Try.func16, Try.ntmps16
    go_wp2_with (first
      | (go_at_call 37; refine (none_any p _ sd _ (Blk.alloc HB.out _)).mono ?_; rintro e w' ⟨rfl, rfl⟩)
      | (go_at_call_of 38 f; refine (lane_address f _).mono ?_; rintro e w' ⟨rfl, rfl⟩; rw [HF.out]))
    go_ret
    exact ⟨rfl, Ba (B0 w) _⟩
  · cases ht : adr t
    · have HF := Lib.hid hf
      have HT := Lib.hid ht
      clear hf ht h
      go_enter Try.func16, Try.ntmps16
      go_wp2_with (first
        | (go_at_call 37; refine (none_any p _ sd _ (Blk.alloc HB.out _)).mono ?_; rintro e w' ⟨rfl, rfl⟩)
        | (go_at_call_of 38 f; refine (lane_address f _).mono ?_; rintro e w' ⟨rfl, rfl⟩; rw [HF.out])
        | (go_at_call_of 38 t; refine (lane_address t _).mono ?_; rintro e w' ⟨rfl, rfl⟩; rw [HT.out]))
      go_ret
      exact ⟨rfl, Ba (B0 w) _⟩
    · have e : f = t := by simpa [hf, ht] using h
      subst e
      have HF := Lib.hid hf
      clear hf ht h
      go_enter Try.func16, Try.ntmps16
      go_wp2_with (first
        | (go_at_call 37; refine (none_any p _ sd _ (Blk.alloc HB.out _)).mono ?_; rintro e w' ⟨rfl, rfl⟩)
        | (go_at_call_of 38 f; refine (lane_address f _).mono ?_; rintro e w' ⟨rfl, rfl⟩; rw [HF.out]))
      go_ret
      exact ⟨rfl, Ba (B0 w) _⟩

/-- Behind a call on the lane: what it answers, the lane then, and where it may lie. -/
def Did (S : Nat → Prop) (p : Nat) (ds : List Dg) (sd : Int) (v : Value) (w : World) (e : Ending) (w' : World) : Prop :=
  e = .returned v ∧ ∃ S', Mod S w w' ∧ LaneAt w' S' p ds sd ∧ ∀ i, S' i → S i ∨ w.heap.size ≤ i

theorem LaneAt.below {w w' : World} {S : Nat → Prop} {p : Nat} {ds : List Dg} {sd : Int} (h : LaneAt w S p ds sd) (hb : Below w.heap.size w w') : LaneAt w' S p ds sd :=
  h.kept (Mod.of_below (S := fun _ => False) hb) (fun _ _ h => h)
theorem Did.same {w w' : World} {S : Nat → Prop} {p : Nat} {ds : List Dg} {sd : Int} {v : Value} (h : LaneAt w S p ds sd) (hb : Below w.heap.size w w') : Did S p ds sd v w (.returned v) w' :=
  ⟨rfl, S, Mod.of_below hb, h.below hb, fun _ hi => .inl hi⟩

theorem put_any (S T : Nat → Prop) (p : Nat) (ds : List Dg) (sd f t : Int) (A : Option Addr) (c : Nat) (bs : List Int) (w : World) (h : LaneAt w S p ds sd) (hr : Rd w T 1 (.slice A bs.length c) bs.length (bts bs)) (hT : ∀ i, T i → i < w.heap.size) (hl : bs.length ≤ 140737488355328) :
    Calls Try.prog 16 #[.pointer (some ⟨p, 0, none⟩), .agg #[.int .i64 f, .int .i64 t, .slice A bs.length c]] w (Did S p (putL ds f t bs) sd (.int .i64 (putE ds f t)) w) := by
  have h0 := h
  obtain ⟨h1, h2, h2', l, sl, U, h3, h4, h5, h6, h7, h8⟩ := h
  obtain ⟨As, cs, rfl⟩ := own_slice h5
  have hll : l.length = ds.length := by rw [← h3]; simp
  unfold putL putE
  by_cases hg : (adr f && adr t && !(f == t)) = true
  · have hg' := hg
    simp only [Bool.and_eq_true, Bool.not_eq_true'] at hg'
    by_cases hn : ds.length = 4096
    · simp only [hg, hn, if_true]
      exact (put_full p f t sd A As _ cs c _ [] w h4 (by omega) hg'.1.1 hg'.1.2 hg'.2).mono fun e w' ⟨he, hb⟩ => by subst he; exact Did.same h0 hb
    · simp only [hg, hn, if_true, if_false]
      refine (put_ok p f t sd A As l.length cs c bs T _ w h4 h5 (by omega) hr hT hl hg'.1.1 hg'.1.2 hg'.2).mono ?_
      rintro e w' ⟨rfl, A1, c1, v2, w1, w2, W, hW, HF, HA, rfl⟩
      have hlt : ∀ i, S i → i < w1.heap.size := fun i hi => Nat.lt_of_lt_of_le (h2 i hi) (Nat.le_trans hW.size HF.kept.size)
      have hb1 : Below w.heap.size w w1 := Bt hW HF.kept
      have hmA : Mod (fun k => (Value.slice As l.length cs).ownBlock = some k) (w1.alloc (.cells #[.int .i64 f, .int .i64 t, .slice A1 bs.length c1] 30)) w2 := (Mod.refl _ _).grown HA.grown (fun k hk => .inl hk)
      have hm2 : Mod (fun k => (Value.slice As l.length cs).ownBlock = some k) w1 w2 := ((Mod.refl _ _).alloc _).trans hmA (fun i hi => .inl hi)
      have hm3 : Mod (fun k => (Value.slice As l.length cs).ownBlock = some k ∨ k = p) w1 (w2.setCell ⟨p, 1, none⟩ v2) := (hm2.mono (fun i hi => .inl hi)).setCell (.inl (.inr rfl)) _
      have hp2 : Blk w2 p 59 #[.bool true, .slice As l.length cs, .int .i64 sd] := (h4.later hb1).kept hm2 (fun h => own_ne_blk h5 h4 (show (30 : TypeId) ≠ 59 by decide) h)
      have hown := HA.own
      have hv2 : ∀ k, v2.ownBlock = some k → k = w1.heap.size + 1 ∨ (Value.slice As l.length cs).ownBlock = some k := by
        intro k hk
        rcases HA.at_ with e | e
        · exact .inr (e ▸ hk)
        · left
          rw [e] at hk
          injection hk with hk
          simp at hk
          exact hk.symm
      refine ⟨rfl, fun k => S k ∨ (w.heap.size ≤ k ∧ k < w2.heap.size), ?_, ?_, fun i hi => hi.imp id And.left⟩
      · exact (Mod.of_below (S := S) hb1).trans hm3 (fun i hi => by
          rcases hi with hi | rfl
          · exact .inl (h6 i hi).1
          · exact .inl h1)
      · have hp : p < w1.heap.size := hlt p h1
        have hsz : w1.heap.size ≤ w2.heap.size := hm2.size
        refine ⟨.inl h1, ?_, by simp; omega, l ++ [⟨f, t, A1, c1, bs⟩], v2, fun k => U k ∨ (w.heap.size ≤ k ∧ k < w1.heap.size), by simp [h3, Item.dg], ?_, ?_, ?_, ?_, ?_⟩
        · intro i hi
          simp only [World.size_setCell]
          rcases hi with hi | hi
          · exact Nat.lt_of_lt_of_le (hlt i hi) hsz
          · exact hi.2
        · exact (by simpa using hp2.set_ 1 v2)
        · rw [rowOf_append, List.length_append]
          refine own_mod (T := fun k => k = p) hown ((Mod.refl (fun k => k = p) w2).setCell (.inl rfl) _) ?_ (Nat.le_refl _)
          intro k hk hkp
          subst hkp
          exact own_ne_blk hown hp2 (show (30 : TypeId) ≠ 59 by decide) hk
        · intro k hk
          have hk2 := own_lt hown k hk
          rcases hv2 k hk with rfl | hk'
          · refine ⟨.inr ⟨?_, hk2⟩, ?_⟩
            · have := hb1.size; omega
            · rintro (hu | hu)
              · have := hlt _ (h7 _ hu).1; omega
              · omega
          · refine ⟨.inl (h6 k hk').1, ?_⟩
            rintro (hu | hu)
            · exact (h6 k hk').2 hu
            · have := h2 k (h6 k hk').1; omega
        · intro i hi
          rcases hi with hi | hi
          · exact ⟨.inl (h7 i hi).1, (h7 i hi).2⟩
          · exact ⟨.inr ⟨hi.1, by omega⟩, by have := h2 p h1; omega⟩
        · intro x hx
          rcases List.mem_append.1 hx with hx | hx
          · refine Item.ok_mono ?_ (fun i hi => .inl hi)
            have h9 := Item.ok_kept (h8 x hx) (Mod.of_below (S := fun _ => False) hb1) (fun _ _ h => h)
            refine Item.ok_kept h9 hm3 ?_
            rintro i hi (hk | rfl)
            · exact (h6 i hk).2 hi
            · exact (h7 _ hi).2 rfl
          · simp only [List.mem_singleton] at hx
            subst hx
            refine ⟨?_, hl⟩
            have h9 : Rd w1 (fun k => w.heap.size ≤ k ∧ k < w1.heap.size) 1 (.slice A1 bs.length c1) bs.length (bts bs) :=
              (Rd.of_own HF.own).mono (fun i hi => ⟨Nat.le_trans hW.size (own_ge HF.own i hi), own_lt HF.own i hi⟩)
            refine (h9.kept hm3 ?_).mono (fun i hi => .inr hi)
            rintro i hi (hk | rfl)
            · have := h2 i (h6 i hk).1; omega
            · have := h2 i h1; omega
  · rw [Bool.not_eq_true] at hg
    simp only [hg, Bool.false_eq_true, if_false]
    exact (put_arg p f t sd A As _ cs c _ w h4 hg).mono fun e w' ⟨he, hb⟩ => by subst he; exact Did.same h0 hb
end Go.Proofs.Ytekedgokmmkplaa
