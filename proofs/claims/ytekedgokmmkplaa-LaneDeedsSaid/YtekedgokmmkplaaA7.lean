/- The lane's methods: New, Len, Cut, Double, Take, Reaches. -/
import Derived.Test.YtekedgokmmkplaaA6
namespace Go.Proofs.Ytekedgokmmkplaa
open Go.RowKit
set_option linter.unusedVariables false
set_option linter.unusedSimpArgs false

theorem new_any (w : World) : Calls Try.prog 12 #[] w fun e w' => e = .returned (.pointer (some ⟨w.heap.size, 0, none⟩)) ∧ Below w.heap.size w w' ∧ LaneAt w' (fun k => k = w.heap.size) w.heap.size [] 0 := by
  go_enter Try.func12, Try.ntmps12
  go_wp2
  go_ret
  refine ⟨by simp, Ba (B0 w) _, rfl, by simp, by simp, [], .slice none 0 0, fun _ => False, rfl, Blk.new w 59 _, World.ownsRow_nil _ _ _ _, by simp [Value.ownBlock], fun i h => h.elim, by simp⟩

theorem len_any (S : Nat → Prop) (p : Nat) (ds : List Dg) (sd : Int) (w : World) (h : LaneAt w S p ds sd) :
    Calls Try.prog 25 #[.pointer (some ⟨p, 0, none⟩)] w fun e w' => e = .returned (.int .i64 ds.length) ∧ w = w' := by
  obtain ⟨h1, h2, h2', l, sl, T, h3, h4, h5, h6, h7, h8⟩ := h
  obtain ⟨As, cs, rfl⟩ := own_slice h5
  have hll : ds.length = l.length := by rw [← h3]; simp
  rw [hll]
  have HB := Lib.hid h4
  obtain ⟨q0, q1, q2, z0, z1, z2⟩ := blk3 h4
  clear h3 h4 h5 h6 h7 h8 hll
  go_enter Try.func25, Try.ntmps25
  go_wp2_with (go_at_call 37; refine (none_any p _ sd _ HB.out).mono ?_; rintro e w' ⟨rfl, rfl⟩)
  go_ret
  exact ⟨rfl, rfl⟩

def cutE (side : Int) : Int := if side < 0 then 9 else 0
def cutS (sd side : Int) : Int := if side < 0 then sd else side

theorem LaneAt.side {w : World} {S : Nat → Prop} {p : Nat} {ds : List Dg} {sd : Int} (h : LaneAt w S p ds sd) (side : Int) : LaneAt (w.setCell ⟨p, 2, none⟩ (.int .i64 side)) S p ds side := by
  obtain ⟨h1, h2, h2', l, sl, T, h3, h4, h5, h6, h7, h8⟩ := h
  have hm : Mod (fun k => k = p) w (w.setCell ⟨p, 2, none⟩ (.int .i64 side)) := (Mod.refl (fun k => k = p) w).setCell (.inl rfl) _
  refine ⟨h1, by simpa using h2, h2', l, sl, T, h3, by simpa using h4.set_ 2 (.int .i64 side), own_mod h5 hm ?_ (Nat.le_refl _), h6, h7, fun x hx => Item.ok_kept (h8 x hx) hm (fun i hi e => (h7 i hi).2 e)⟩
  intro k hk e
  subst e
  exact own_ne_blk h5 h4 (show (30 : TypeId) ≠ 59 by decide) hk

theorem cut_any (S : Nat → Prop) (p : Nat) (ds : List Dg) (sd side : Int) (w : World) (h : LaneAt w S p ds sd) :
    Calls Try.prog 15 #[.pointer (some ⟨p, 0, none⟩), .int .i64 side] w (Did S p ds (cutS sd side) (.int .i64 (cutE side)) w) := by
  have H := Lib.hid h
  obtain ⟨h1, h2, h2', l, sl, T, h3, h4, h5, h6, h7, h8⟩ := h
  have HB := Lib.hid h4
  obtain ⟨q0, q1, q2, z0, z1, z2⟩ := blk3 h4
  clear h3 h4 h5 h6 h7 h8
  have H1 := Lib.hid h1
  clear h1 h2
  unfold cutS cutE
  by_cases hs : side < 0
  · rw [if_pos hs, if_pos hs]
    go_enter Try.func15, Try.ntmps15
    go_wp2_with (go_at_call 37; refine (none_any p _ sd _ HB.out).mono ?_; rintro e w' ⟨rfl, rfl⟩)
    go_ret
    exact Did.same H.out (B0 w)
  · rw [if_neg hs, if_neg hs]
    go_enter Try.func15, Try.ntmps15
    go_wp2_with (go_at_call 37; refine (none_any p _ sd _ HB.out).mono ?_; rintro e w' ⟨rfl, rfl⟩)
    go_ret
    exact ⟨rfl, S, (Mod.refl S w).setCell (.inl H1.out) _, H.out.side side, fun i hi => .inl hi⟩

def dblE (ds : List Dg) (i : Int) : Int := if inR ds.length i then putE ds (seeD ds i).f (seeD ds i).t else 9
def dblL (ds : List Dg) (i : Int) : List Dg := if inR ds.length i then putL ds (seeD ds i).f (seeD ds i).t (seeD ds i).bs else ds

theorem double_any (S : Nat → Prop) (p : Nat) (ds : List Dg) (sd i : Int) (w : World) (h : LaneAt w S p ds sd) (hl : (seeD ds i).bs.length ≤ 140737488355328) :
    Calls Try.prog 29 #[.pointer (some ⟨p, 0, none⟩), .int .i64 i] w (Did S p (dblL ds i) sd (.int .i64 (dblE ds i)) w) := by
  have H := Lib.hid h
  clear h
  unfold dblL dblE
  by_cases hin : inR ds.length i = true
  · have he : seeE ds i = 0 := by simp [seeE, hin]
    rw [if_pos hin, if_pos hin]
    obtain ⟨f, hf⟩ : ∃ f, f = (seeD ds i).f := ⟨_, rfl⟩
    obtain ⟨t, ht⟩ : ∃ t, t = (seeD ds i).t := ⟨_, rfl⟩
    obtain ⟨bs, hb⟩ : ∃ bs, bs = (seeD ds i).bs := ⟨_, rfl⟩
    rw [← hf, ← ht, ← hb]
    rw [← hb] at hl
    have HF := Lib.hid (And.intro hf (And.intro ht hb))
    have HE := Lib.hid he
    clear hf ht hb he hin
    go_enter Try.func29, Try.ntmps29
    go_wp2_with (first
      | (go_at_call 17; refine (see_any S p ds sd i _ H.out).mono ?_; rintro e w1 ⟨A1, c1, rfl, HS⟩; rw [← HF.out.1, ← HF.out.2.1, ← HF.out.2.2, HE.out]; rw [← HF.out.2.2] at HS; replace HS := Lib.hid HS; have lw := HS.out.kept.size)
      | (go_at_call 16; refine (put_any S (fun k => k < w1.heap.size) p ds sd f t A1 c1 bs _ (H.out.below (Ba HS.out.kept _)) (HS.out.rd1 _) (fun i hi => by simp; omega) hl).mono ?_; rintro e w2 ⟨rfl, S', hm, hl', hs'⟩))
    go_ret
    exact ⟨rfl, S', (Mod.of_below (S := S) (Ba HS.out.kept _)).trans hm (fun i hi => .inl hi), hl', fun i hi => (hs' i hi).imp id (fun h => by simp at h; omega)⟩
  · rw [Bool.not_eq_true] at hin
    have he : seeE ds i = 9 := by simp [seeE, hin]
    have hd : seeD ds i = ⟨0, 0, []⟩ := by simp [seeD, hin]
    simp only [hin, Bool.false_eq_true, if_false]
    have HE := Lib.hid he
    have HD := Lib.hid hd
    clear hin he hd hl
    go_enter Try.func29, Try.ntmps29
    go_wp2_with (go_at_call 17; refine (see_any S p ds sd i _ H.out).mono ?_; rintro e w1 ⟨A1, c1, rfl, HS⟩; rw [HD.out, HE.out]; replace HS := Lib.hid HS.kept)
    go_ret
    exact Did.same H.out (Ba HS.out _)

def takL (ds : List Dg) (i : Int) : List Dg := if inR ds.length i then ds.eraseIdx i.toNat else ds

/-- What Take answers, and the lane behind it. -/
def Took (S : Nat → Prop) (p : Nat) (ds : List Dg) (sd i : Int) (w : World) (e : Ending) (w' : World) : Prop :=
  ∃ A c, e = .returned (.tuple #[.agg #[.int .i64 (seeD ds i).f, .int .i64 (seeD ds i).t, .slice A (seeD ds i).bs.length c], .int .i64 (seeE ds i)]) ∧ w'.ownsRow w.heap.size 5 1 (.slice A (seeD ds i).bs.length c) (seeD ds i).bs.length (bts (seeD ds i).bs) ∧
    Mod S w w' ∧ LaneAt w' S p (takL ds i) sd

theorem take_end (S T : Nat → Prop) (p : Nat) (ds : List Dg) (sd : Int) (l : List Item) (k : Nat) (As : Option Addr) (cs : Nat) (w w1 w2 w3 : World) (A1 A2 : Option Addr) (c1 c2 : Nat) (bs : List Int) (o : Obj)
    (h1 : S p) (h2 : ∀ i, S i → i < w.heap.size) (h2' : ds.length ≤ 4096) (h3 : l.map Item.dg = ds) (h4 : Blk w p 59 #[.bool true, .slice As l.length cs, .int .i64 sd]) (h5 : w.ownsRow 0 30 3 (.slice As l.length cs) l.length (rowOf l))
    (h6 : ∀ k, (Value.slice As l.length cs).ownBlock = some k → S k ∧ ¬ T k) (h7 : ∀ i, T i → S i ∧ i ≠ p) (h8 : ∀ x ∈ l, x.ok w T) (hk : k < l.length)
    (hb1 : Below w.heap.size w w1) (o5 : w1.ownsRow (w.heap.size + 1) 5 1 (.slice A1 bs.length c1) bs.length (bts bs))
    (own2 : w2.ownsRow 0 30 3 (.slice A2 (l.length - 1) c2) (l.length - 1) (rowOf (l.eraseIdx k))) (hob : (Value.slice As l.length cs).ownBlock = (Value.slice A2 (l.length - 1) c2).ownBlock)
    (hm2 : Mod (fun k => (Value.slice As l.length cs).ownBlock = some k) (w1.alloc o) w2) (hm3 : Mod (fun j => j = w.heap.size) (w2.setCell ⟨p, 1, none⟩ (.slice A2 (l.length - 1) c2)) w3) :
    w3.ownsRow w.heap.size 5 1 (.slice A1 bs.length c1) bs.length (bts bs) ∧ Mod S w w3 ∧ LaneAt w3 S p (ds.eraseIdx k) sd := by
  have hlt : ∀ i, S i → i < w1.heap.size := fun i hi => Nat.lt_of_lt_of_le (h2 i hi) hb1.size
  have hm12 : Mod (fun k => (Value.slice As l.length cs).ownBlock = some k) w1 w2 := ((Mod.refl _ _).alloc _).trans hm2 (fun i hi => .inl hi)
  have hmp : Mod (fun k => (Value.slice As l.length cs).ownBlock = some k ∨ k = p) w1 (w2.setCell ⟨p, 1, none⟩ (.slice A2 (l.length - 1) c2)) := (hm12.mono (fun i hi => .inl hi)).setCell (.inl (.inr rfl)) _
  have hm13 : Mod (fun k => (Value.slice As l.length cs).ownBlock = some k ∨ k = p ∨ k = w.heap.size) w1 w3 :=
    (hmp.mono (T := fun k => (Value.slice As l.length cs).ownBlock = some k ∨ k = p ∨ k = w.heap.size) (fun i hi => hi.imp id .inl)).trans hm3 (fun i hi => .inl (.inr (.inr hi)))
  have hp2 : Blk w2 p 59 #[.bool true, .slice As l.length cs, .int .i64 sd] := (h4.later hb1).kept hm12 (fun h => own_ne_blk h5 h4 (show (30 : TypeId) ≠ 59 by decide) h)
  have hpN : p ≠ w.heap.size := fun e => by have := h2 p h1; omega
  refine ⟨own_mod o5 hm13 ?_ (by omega), ?_, h1, ?_, ?_, l.eraseIdx k, .slice A2 (l.length - 1) c2, T, ?_, ?_, ?_, ?_, h7, ?_⟩
  · intro j hj
    have hge := own_ge o5 j hj
    rintro (h | h | h)
    · have := h2 j (h6 j h).1; omega
    · subst h; have := h2 _ h1; omega
    · omega
  · exact (Mod.of_below (S := S) hb1).trans hm13 (fun i hi => by
      rcases hi with hi | rfl | rfl
      · exact .inl (h6 i hi).1
      · exact .inl h1
      · exact .inr (Nat.le_refl _))
  · intro i hi
    exact Nat.lt_of_lt_of_le (hlt i hi) hm13.size
  · rw [List.length_eraseIdx]; split <;> omega
  · rw [← h3, List.eraseIdx_eq_take_drop_succ, List.eraseIdx_eq_take_drop_succ]
    simp
  · have := (hp2.set_ 1 (.slice A2 (l.length - 1) c2)).kept hm3 hpN
    simpa using this
  · rw [show (l.eraseIdx k).length = l.length - 1 from by rw [List.length_eraseIdx, if_pos hk]]
    refine own_mod (T := fun j => j = p ∨ j = w.heap.size) own2 (((Mod.refl (fun j => j = p ∨ j = w.heap.size) w2).setCell (.inl (.inl rfl)) _).trans hm3 (fun i hi => .inl (.inr hi))) ?_ (Nat.le_refl _)
    rintro j hj (rfl | rfl)
    · exact own_ne_blk own2 hp2 (show (30 : TypeId) ≠ 59 by decide) hj
    · rw [← hob] at hj
      have := h2 _ (h6 _ hj).1; omega
  · intro j hj
    rw [← hob] at hj
    exact h6 j hj
  · intro x hx
    refine Item.ok_kept (Item.ok_kept (h8 x (List.mem_of_mem_eraseIdx hx)) (Mod.of_below (S := fun _ => False) hb1) (fun _ _ h => h)) hm13 ?_
    rintro i hi (h | rfl | rfl)
    · exact (h6 i h).2 hi
    · exact (h7 _ hi).2 rfl
    · have := h2 _ (h7 _ hi).1; omega

set_option maxHeartbeats 1000000 in
theorem take_any (S : Nat → Prop) (p : Nat) (ds : List Dg) (sd i : Int) (w : World) (h : LaneAt w S p ds sd) : Calls Try.prog 31 #[.pointer (some ⟨p, 0, none⟩), .int .i64 i] w (Took S p ds sd i w) := by
  have H := Lib.hid h
  unfold Took takL
  by_cases hin : inR ds.length i = true
  · have he : seeE ds i = 0 := by simp [seeE, hin]
    rw [if_pos hin]
    obtain ⟨f, hf⟩ : ∃ f, f = (seeD ds i).f := ⟨_, rfl⟩
    obtain ⟨t, ht⟩ : ∃ t, t = (seeD ds i).t := ⟨_, rfl⟩
    obtain ⟨bs, hb⟩ : ∃ bs, bs = (seeD ds i).bs := ⟨_, rfl⟩
    rw [← hf, ← ht, ← hb, he]
    have hin' := hin
    simp only [inR, Bool.and_eq_true, decide_eq_true_eq] at hin'
    obtain ⟨k, rfl⟩ := Int.eq_ofNat_of_zero_le hin'.1
    obtain ⟨h1, h2, h2', l, sl, T, h3, h4, h5, h6, h7, h8⟩ := h
    have hll : l.length = ds.length := by rw [← h3]; simp
    have hk : k < l.length := by omega
    have hk2 : (k : Int) + 1 ≤ 4096 := by omega
    obtain ⟨As, cs, rfl⟩ := own_slice h5
    have H4 := Lib.hid h4
    have H5 := Lib.hid h5
    have HF := Lib.hid (And.intro hf (And.intro ht hb))
    have HE := Lib.hid he
    have H6 := Lib.hid (And.intro h1 (And.intro h2 (And.intro h2' (And.intro h3 (And.intro h6 (And.intro h7 h8))))))
    obtain ⟨q0, q1, q2, z0, z1, z2⟩ := blk3 h4
    have lp := h4.lt
    have hne2 : ¬ p = w.heap.size := by omega
    have HLL := Lib.hid hll
    clear hll hf ht hb he hin hin' h1 h2 h2' h3 h4 h5 h6 h7 h8
    go_enter Try.func31, Try.ntmps31
    go_wp2_with (first
      | (go_at_call 17; refine (see_any S p ds sd k _ (H.out.below (Ba (B0 w) _))).mono ?_; rintro e w1 ⟨A1, c1, rfl, HS⟩; rw [← HF.out.1, ← HF.out.2.1, ← HF.out.2.2, HE.out]; rw [← HF.out.2.2] at HS; replace HS := Lib.hid HS; have lw : p < w1.heap.size := Nat.lt_of_lt_of_le lp (Bt (Ba (B0 w) _) HS.out.kept).size; obtain ⟨p0, p1, p2, y0, y1, y2⟩ := blk3 (H4.out.later (Bt (Ba (B0 w) _) HS.out.kept)))
      | (go_at_call 42; refine (delete_any (.slice As l.length cs) l k hk _ (own_below H5.out (Ba (Bt (Ba (B0 w) _) HS.out.kept) _))).mono ?_; rintro e w2 ⟨A2, c2, rfl, own2, hob, hm2⟩; have hne1 : ¬ p = w1.heap.size := (by omega); have lN : w.heap.size < w1.heap.size := Nat.lt_of_lt_of_le (by simp) HS.out.kept.size; have hne3 : ¬ w1.heap.size = w.heap.size := (by omega); obtain ⟨d0, d1, d2, _, _, _⟩ := blk3 ((Blk.new w1 30 #[.int .i64 f, .int .i64 t, .slice A1 bs.length c1]).kept hm2 (fun h => by have := own_lt H5.out _ h; omega)); have HBr := (((Blk.new w 30 #[.int .i64 0, .int .i64 0, .slice none 0 0]).later HS.out.kept).alloc _).kept hm2 (fun h => by have := own_lt H5.out _ h; omega); obtain ⟨r0, r1, r2, v0, v1, v2⟩ := blk3 HBr; obtain ⟨p0', p1', p2', y0', y1', y2'⟩ := blk3 (((H4.out.later (Bt (Ba (B0 w) _) HS.out.kept)).alloc _).kept hm2 (fun h => own_ne_blk H5.out H4.out (show (30 : TypeId) ≠ 59 by decide) h))))
    obtain ⟨x0, x1, x2, _⟩ := blk3 ((HBr.far (p := ⟨p, 1, none⟩) (Ne.symm hne2) (.slice A2 (l.length - 1) c2)).set3 (.int .i64 f) (.int .i64 t) (.slice A1 bs.length c1))
    refine bodyPost_ret (v := .tuple #[.agg #[.int .i64 f, .int .i64 t, .slice A1 bs.length c1], .int .i64 0]) (by simp [results, Try.results31, go_sem, x0, x1, x2]) rfl ?_
    obtain ⟨a1, a2, a3, a4, a6, a7, a8⟩ := H6.out
    obtain ⟨e1, e2, e3⟩ := take_end S T p ds sd l k As cs w w1 w2 _ A1 A2 c1 c2 bs _ a1 a2 a3 a4 H4.out H5.out a6 a7 a8 hk (Bt (Ba (B0 w) _) HS.out.kept) (by simpa using HS.out.own) own2 hob hm2
      ((((Mod.refl (fun j => j = w.heap.size) _).setCell (p := ⟨w.heap.size, 0, none⟩) (.inl rfl) (.int .i64 f)).setCell (p := ⟨w.heap.size, 1, none⟩) (.inl rfl) (.int .i64 t)).setCell (p := ⟨w.heap.size, 2, none⟩) (.inl rfl) (.slice A1 bs.length c1))
    exact ⟨A1, c1, rfl, e1, e2, e3⟩
  · rw [Bool.not_eq_true] at hin
    have he : seeE ds i = 9 := by simp [seeE, hin]
    have hd : seeD ds i = ⟨0, 0, []⟩ := by simp [seeD, hin]
    simp only [hin, Bool.false_eq_true, if_false, he, hd]
    have HE := Lib.hid he
    have HD := Lib.hid hd
    clear hin he hd h
    go_enter Try.func31, Try.ntmps31
    go_wp2_with (go_at_call 17; refine (see_any S p ds sd i _ (H.out.below (Ba (B0 w) _))).mono ?_; rintro e w1 ⟨A1, c1, rfl, HS⟩; rw [HD.out, HE.out]; rw [HD.out] at HS; replace HS := Lib.hid HS; have lN : w.heap.size < w1.heap.size := Nat.lt_of_lt_of_le (by simp) HS.out.kept.size; have hne3 : ¬ w1.heap.size = w.heap.size := (by omega); have HBr := (Blk.new w 30 #[.int .i64 0, .int .i64 0, .slice none 0 0]).later HS.out.kept; obtain ⟨r0, r1, r2, v0, v1, v2⟩ := blk3 HBr)
    obtain ⟨x0, x1, x2, _⟩ := blk3 ((HBr.set3 (.int .i64 0) (.int .i64 0) (.slice A1 0 c1)).alloc (.cells #[.int .i64 0, .int .i64 0, .slice A1 0 c1] 30))
    refine bodyPost_ret (v := .tuple #[.agg #[.int .i64 0, .int .i64 0, .slice A1 0 c1], .int .i64 9]) (by simp [results, Try.results31, go_sem, x0, x1, x2]) rfl ?_
    have hb : Below w.heap.size w w1 := Bt (Ba (B0 w) _) HS.out.kept
    refine ⟨A1, c1, rfl, own_mod HS.out.own (T := fun j => j = w.heap.size) (((((Mod.refl (fun j => j = w.heap.size) w1).setCell (.inl rfl) _).setCell (.inl rfl) _).setCell (.inl rfl) _).alloc _) ?_ (by simp), ?_, ?_⟩
    · intro j hj e
      have := own_ge HS.out.own j hj
      simp at this
      omega
    · exact Mod.of_below (Ba (Bs (Bs (Bs hb (Nat.le_refl _) _) (Nat.le_refl _) _) (Nat.le_refl _) _) _)
    · exact H.out.below (Ba (Bs (Bs (Bs hb (Nat.le_refl _) _) (Nat.le_refl _) _) (Nat.le_refl _) _) _)
end Go.Proofs.Ytekedgokmmkplaa
