/- The lane's calls as the statements use them: one lane of the call's own, beside other blocks that stay (K). -/
import Derived.Test.YtekedgokmmkplaaA8
namespace Go.Proofs.Ytekedgokmmkplaa
open Go.RowKit
set_option linter.unusedVariables false
set_option linter.unusedSimpArgs false

/-- What stays: what was there before (below B), and the blocks of K. -/
def Stays (B : Nat) (K : Nat → Prop) (i : Nat) : Prop := B ≤ i ∧ ¬ K i
def LaneIn (B : Nat) (K : Nat → Prop) (w : World) (p : Nat) (ds : List Dg) (sd : Int) : Prop :=
  B ≤ w.heap.size ∧ (∀ i, K i → i < w.heap.size) ∧ 0 ≤ sd ∧ sd < 9223372036854775808 ∧ (∀ d ∈ ds, d.bs.length ≤ 140737488355328) ∧ ∃ S, (∀ i, S i → Stays B K i) ∧ LaneAt w S p ds sd

theorem LaneIn.below {B : Nat} {K : Nat → Prop} {w w' : World} {p : Nat} {ds : List Dg} {sd : Int} (h : LaneIn B K w p ds sd) (hb : Below w.heap.size w w') : LaneIn B K w' p ds sd := by
  obtain ⟨h1, h2, h3, h4, h5, S, h6, h7⟩ := h
  exact ⟨Nat.le_trans h1 hb.size, fun i hi => Nat.lt_of_lt_of_le (h2 i hi) hb.size, h3, h4, h5, S, h6, h7.below hb⟩
/-- Blocks that are new stay from now on. -/
theorem LaneIn.keep {B : Nat} {K L : Nat → Prop} {w w' : World} {p : Nat} {ds : List Dg} {sd : Int} (h : LaneIn B K w p ds sd) (hb : Below w.heap.size w w') (hL : ∀ i, L i → (w.heap.size ≤ i ∧ i < w'.heap.size) ∨ K i) : LaneIn B L w' p ds sd := by
  obtain ⟨h1, h2, h3, h4, h5, S, h6, h7⟩ := h
  refine ⟨Nat.le_trans h1 hb.size, fun i hi => ?_, h3, h4, h5, S, fun i hi => ⟨(h6 i hi).1, fun hl => ?_⟩, h7.below hb⟩
  · rcases hL i hi with h | h
    · exact h.2
    · exact Nat.lt_of_lt_of_le (h2 i h) hb.size
  · rcases hL i hl with h | h
    · have := h7.2.1 i hi; omega
    · exact (h6 i hi).2 h

theorem seeD_len {ds : List Dg} (h : ∀ d ∈ ds, d.bs.length ≤ 140737488355328) (i : Int) : (seeD ds i).bs.length ≤ 140737488355328 := by
  unfold seeD
  split
  · rename_i hin
    simp only [inR, Bool.and_eq_true, decide_eq_true_eq] at hin
    have hlt : i.toNat < ds.length := by omega
    rw [List.getD_eq_getElem?_getD, List.getElem?_eq_getElem hlt]
    exact h _ (List.getElem_mem hlt)
  · simp
theorem putL_len {ds : List Dg} (h : ∀ d ∈ ds, d.bs.length ≤ 140737488355328) (f t : Int) {bs : List Int} (hb : bs.length ≤ 140737488355328) : ∀ d ∈ putL ds f t bs, d.bs.length ≤ 140737488355328 := by
  unfold putL
  split
  · intro d hd
    rcases List.mem_append.1 hd with hd | hd
    · exact h d hd
    · simp at hd; subst hd; exact hb
  · exact h

/-- Behind a call: what it answers; the lane then; what stays. -/
def DidIn (B : Nat) (K : Nat → Prop) (p : Nat) (ds : List Dg) (sd : Int) (v : Value) (w : World) (e : Ending) (w' : World) : Prop :=
  e = .returned v ∧ LaneIn B K w' p ds sd ∧ Mod (Stays B K) w w'

theorem did_in {B : Nat} {K S : Nat → Prop} {p : Nat} {ds : List Dg} {sd : Int} {v : Value} {w w' : World} {e : Ending} (h1 : B ≤ w.heap.size) (h2 : ∀ i, K i → i < w.heap.size) (h3 : 0 ≤ sd) (h4 : sd < 9223372036854775808)
    (h5 : ∀ d ∈ ds, d.bs.length ≤ 140737488355328) (hS : ∀ i, S i → Stays B K i) (h : Did S p ds sd v w e w') : DidIn B K p ds sd v w e w' := by
  obtain ⟨he, S', hm, hl, hs⟩ := h
  refine ⟨he, ⟨Nat.le_trans h1 hm.size, fun i hi => Nat.lt_of_lt_of_le (h2 i hi) hm.size, h3, h4, h5, S', fun i hi => ?_, hl⟩, hm.mono hS⟩
  rcases hs i hi with h | h
  · exact hS i h
  · exact ⟨by omega, fun hk => by have := h2 i hk; omega⟩

theorem put_in {B : Nat} {K T : Nat → Prop} {p : Nat} {ds : List Dg} {sd : Int} (f t : Int) (A : Option Addr) (c : Nat) (bs : List Int) (w : World) (h : LaneIn B K w p ds sd) (hr : Rd w T 1 (.slice A bs.length c) bs.length (bts bs)) (hT : ∀ i, T i → i < w.heap.size) (hl : bs.length ≤ 140737488355328) :
    Calls Try.prog 16 #[.pointer (some ⟨p, 0, none⟩), .agg #[.int .i64 f, .int .i64 t, .slice A bs.length c]] w (DidIn B K p (putL ds f t bs) sd (.int .i64 (putE ds f t)) w) := by
  obtain ⟨h1, h2, h3, h4, h5, S, h6, h7⟩ := h
  exact (put_any S T p ds sd f t A c bs w h7 hr hT hl).mono fun e w' hd => did_in h1 h2 h3 h4 (putL_len h5 f t hl) h6 hd

theorem dblL_len {ds : List Dg} (h : ∀ d ∈ ds, d.bs.length ≤ 140737488355328) (i : Int) : ∀ d ∈ dblL ds i, d.bs.length ≤ 140737488355328 := by
  unfold dblL
  split
  · exact putL_len h _ _ (seeD_len h i)
  · exact h

theorem double_in {B : Nat} {K : Nat → Prop} {p : Nat} {ds : List Dg} {sd : Int} (i : Int) (w : World) (h : LaneIn B K w p ds sd) :
    Calls Try.prog 29 #[.pointer (some ⟨p, 0, none⟩), .int .i64 i] w (DidIn B K p (dblL ds i) sd (.int .i64 (dblE ds i)) w) := by
  obtain ⟨h1, h2, h3, h4, h5, S, h6, h7⟩ := h
  exact (double_any S p ds sd i w h7 (seeD_len h5 i)).mono fun e w' hd => did_in h1 h2 h3 h4 (dblL_len h5 i) h6 hd

theorem cut_in {B : Nat} {K : Nat → Prop} {p : Nat} {ds : List Dg} {sd : Int} (side : Int) (hs : side < 9223372036854775808) (w : World) (h : LaneIn B K w p ds sd) :
    Calls Try.prog 15 #[.pointer (some ⟨p, 0, none⟩), .int .i64 side] w (DidIn B K p ds (cutS sd side) (.int .i64 (cutE side)) w) := by
  obtain ⟨h1, h2, h3, h4, h5, S, h6, h7⟩ := h
  exact (cut_any S p ds sd side w h7).mono fun e w' hd => did_in h1 h2 (by unfold cutS; split <;> omega) (by unfold cutS; split <;> omega) h5 h6 hd

theorem len_in {B : Nat} {K : Nat → Prop} {p : Nat} {ds : List Dg} {sd : Int} (w : World) (h : LaneIn B K w p ds sd) :
    Calls Try.prog 25 #[.pointer (some ⟨p, 0, none⟩)] w fun e w' => e = .returned (.int .i64 ds.length) ∧ w = w' := by
  obtain ⟨h1, h2, h3, h4, h5, S, h6, h7⟩ := h
  exact len_any S p ds sd w h7

theorem reaches_in {B : Nat} {K : Nat → Prop} {p : Nat} {ds : List Dg} {sd : Int} (a b : Int) (w : World) (h : LaneIn B K w p ds sd) :
    Calls Try.prog 20 #[.pointer (some ⟨p, 0, none⟩), .int .i64 a, .int .i64 b] w fun e w' => e = .returned (.bool (reachF sd a b)) ∧ ∃ n, w' = w.drewN n := by
  obtain ⟨h1, h2, h3, h4, h5, S, h6, h7⟩ := h
  obtain ⟨_, _, _, l, sl, T, _, hb, _⟩ := h7
  exact reaches_any p sl sd a b w hb h3 h4

theorem new_in (K : Nat → Prop) (w : World) (hK : ∀ i, K i → i < w.heap.size) (B : Nat) (hB : B ≤ w.heap.size) : Calls Try.prog 12 #[] w (fun e w' => e = .returned (.pointer (some ⟨w.heap.size, 0, none⟩)) ∧ LaneIn B K w' w.heap.size [] 0 ∧ Below w.heap.size w w') :=
  (new_any w).mono fun e w' ⟨he, hb, hl⟩ => ⟨he, ⟨Nat.le_trans hB hb.size, fun i hi => Nat.lt_of_lt_of_le (hK i hi) hb.size, by omega, by omega, by simp, _, fun i hi => by subst hi; exact ⟨hB, fun hk => by have := hK _ hk; omega⟩, hl⟩, hb⟩

/-- What See answers, the lane being one of the call's own. -/
theorem see_in_ {B : Nat} {K : Nat → Prop} {p : Nat} {ds : List Dg} {sd : Int} (i : Int) (w : World) (h : LaneIn B K w p ds sd) :
    Calls Try.prog 17 #[.pointer (some ⟨p, 0, none⟩), .int .i64 i] w (Seen ds i w) := by
  obtain ⟨h1, h2, h3, h4, h5, S, h6, h7⟩ := h
  exact see_any S p ds sd i w h7

def TookIn (B : Nat) (K : Nat → Prop) (p : Nat) (ds : List Dg) (sd i : Int) (w : World) (e : Ending) (w' : World) : Prop :=
  ∃ A c, e = .returned (.tuple #[.agg #[.int .i64 (seeD ds i).f, .int .i64 (seeD ds i).t, .slice A (seeD ds i).bs.length c], .int .i64 (seeE ds i)]) ∧ w'.ownsRow w.heap.size 5 1 (.slice A (seeD ds i).bs.length c) (seeD ds i).bs.length (bts (seeD ds i).bs) ∧
    LaneIn B K w' p (takL ds i) sd ∧ Mod (Stays B K) w w'
theorem take_in {B : Nat} {K : Nat → Prop} {p : Nat} {ds : List Dg} {sd : Int} (i : Int) (w : World) (h : LaneIn B K w p ds sd) :
    Calls Try.prog 31 #[.pointer (some ⟨p, 0, none⟩), .int .i64 i] w (TookIn B K p ds sd i w) := by
  obtain ⟨h1, h2, h3, h4, h5, S, h6, h7⟩ := h
  refine (take_any S p ds sd i w h7).mono ?_
  rintro e w' ⟨A, c, rfl, ho, hm, hl⟩
  refine ⟨A, c, rfl, ho, ⟨Nat.le_trans h1 hm.size, fun i hi => Nat.lt_of_lt_of_le (h2 i hi) hm.size, h3, h4, ?_, S, h6, hl⟩, hm.mono h6⟩
  unfold takL
  split
  · exact fun d hd => h5 d (List.mem_of_mem_eraseIdx hd)
  · exact h5

def takesF (ds : List Dg) (i f t : Int) (bs : List Int) : Bool := if seeE ds i = 0 then sameF (seeD ds i).f (seeD ds i).t f t (seeD ds i).bs bs else false

theorem takes_in {B : Nat} {K T : Nat → Prop} {p : Nat} {ds : List Dg} {sd : Int} (i f t : Int) (A : Option Addr) (c : Nat) (bs : List Int) (w : World) (h : LaneIn B K w p ds sd) (hr : Rd w T 1 (.slice A bs.length c) bs.length (bts bs)) (hT : ∀ i, T i → i < w.heap.size ∧ (i < B ∨ K i)) :
    Calls Try.prog 26 #[.pointer (some ⟨p, 0, none⟩), .int .i64 i, .agg #[.int .i64 f, .int .i64 t, .slice A bs.length c]] w (DidIn B K p (takL ds i) sd (.bool (takesF ds i f t bs)) w) := by
  have H := Lib.hid h
  have HR := Lib.hid hr
  clear h hr
  unfold takesF
  obtain ⟨f', hf⟩ : ∃ f', f' = (seeD ds i).f := ⟨_, rfl⟩
  obtain ⟨t', ht⟩ : ∃ t', t' = (seeD ds i).t := ⟨_, rfl⟩
  obtain ⟨bs', hb⟩ : ∃ bs', bs' = (seeD ds i).bs := ⟨_, rfl⟩
  rw [← hf, ← ht, ← hb]
  have HF := Lib.hid (And.intro hf (And.intro ht hb))
  clear hf ht hb
  by_cases he : seeE ds i = 0
  · have HE := Lib.hid he
    rw [if_pos he]
    clear he
    go_enter Try.func26, Try.ntmps26
    go_wp2_with (first
      | (go_at_call 31; refine (take_in i _ (H.out.keep (L := fun j => K j ∨ j = w.heap.size) (Ba (B0 w) _) (fun j hj => hj.elim .inr (fun e => .inl (by subst e; simp))))).mono ?_; rintro e w1 ⟨A1, c1, rfl, ho, hl1, hm1⟩; rw [← HF.out.1, ← HF.out.2.1, ← HF.out.2.2, HE.out]; rw [← HF.out.2.2] at ho; replace ho := Lib.hid ho; have lw : w.heap.size < w1.heap.size := Nat.lt_of_lt_of_le (by simp) hm1.size; obtain ⟨q0, q1, q2, _⟩ := blk3 ((Blk.new w 30 #[.int .i64 f, .int .i64 t, .slice A bs.length c]).kept hm1 (fun h => h.2 (.inr rfl))))
      | (go_at_call 19; refine (same_any (fun j => j < w1.heap.size) T f' t' f t A1 A c1 c bs' bs _ (((Rd.of_own ho.out).mono (fun j hj => own_lt ho.out j hj)).below (Ba (B0 w1) _) (fun _ h => h)) (fun j hj => by simp; omega) ((((HR.out.below (Ba (B0 w) _) (fun j hj => (hT j hj).1)).kept hm1 (fun j hj hs => (hT j hj).2.elim (fun h => by have := hs.1; omega) (fun h => hs.2 (.inl h))))).below (Ba (B0 w1) _) (fun j hj => by have := (hT j hj).1; omega)) (fun j hj => by have := (hT j hj).1; simp; omega)).mono ?_; rintro e w2 ⟨rfl, hb2⟩))
    go_ret
    have hb3 : Below w1.heap.size w1 w2 := Bt (Ba (B0 w1) _) hb2
    exact ⟨rfl, (hl1.below hb3).keep (B0 w2) (fun j hj => .inr (.inl hj)), ((((Mod.refl (Stays B K) w).alloc _).trans hm1 (fun j hj => .inl ⟨hj.1, fun hk => hj.2 (.inl hk)⟩)).trans (Mod.of_below (S := Stays B K) hb3) (fun j hj => .inl hj))⟩
  · have he' : (seeE ds i == 0) = false := by simp [he]
    rw [if_neg he]
    have HE := Lib.hid he
    clear he
    go_enter Try.func26, Try.ntmps26
    go_wp2_with (go_at_call 31; refine (take_in i _ (H.out.keep (L := fun j => K j ∨ j = w.heap.size) (Ba (B0 w) _) (fun j hj => hj.elim .inr (fun e => .inl (by subst e; simp))))).mono ?_; rintro e w1 ⟨A1, c1, rfl, ho, hl1, hm1⟩; clear ho)
    go_ret
    have hb3 : Below w1.heap.size w1 (w1.alloc (.cells #[.int .i64 (seeD ds i).f, .int .i64 (seeD ds i).t, .slice A1 (seeD ds i).bs.length c1] 30)) := Ba (B0 w1) _
    exact ⟨rfl, (hl1.below hb3).keep (B0 _) (fun j hj => .inr (.inl hj)), ((((Mod.refl (Stays B K) w).alloc _).trans hm1 (fun j hj => .inl ⟨hj.1, fun hk => hj.2 (.inl hk)⟩)).trans (Mod.of_below (S := Stays B K) hb3) (fun j hj => .inl hj))⟩

theorem one_any (A : Option Addr) (n c : Nat) (w : World) :
    Calls Try.prog 28 #[.slice A n c] w fun e w' => e = .returned (.agg #[.int .i64 1, .int .i64 2, .slice A n c]) ∧ Below w.heap.size w w' := by
  go_enter Try.func28, Try.ntmps28
  go_wp2
  exact bodyPost_ret (v := .agg #[.int .i64 1, .int .i64 2, .slice A n c]) (by simp [results, Try.results28, go_sem]) rfl ⟨rfl, Ba (B0 w) _⟩

def addrF (n : Int) : Int := if bringF n 16 < 5 then 1 + bringF n 16 else if bringF n 16 < 8 then 6 + bringF n 16 else 13 + bringF n 16
theorem adr_addrF (n : Int) : adr (addrF n) = true := by
  have := bringF_lt n 16 (by omega)
  unfold addrF
  split
  · simp [adr]; omega
  · split
    · simp [adr]; omega
    · simp [adr]; omega
theorem address_any (n : Int) (w : World) : Calls Try.prog 24 #[.int .i64 n] w fun e w' => e = .returned (.int .i64 (addrF n)) ∧ w = w' := by
  have hm := bringF_lt n 16 (by omega)
  unfold addrF
  obtain ⟨m, hm'⟩ : ∃ m, m = bringF n 16 := ⟨_, rfl⟩
  rw [← hm'] at hm ⊢
  have HM := Lib.hid hm'
  clear hm'
  obtain ⟨m0, m1⟩ := hm
  by_cases h5 : m < 5
  · rw [if_pos h5]
    go_enter Try.func24, Try.ntmps24
    go_wp2_with (go_at_call 27; refine (bring_any n 16 _ (by omega)).mono ?_; rintro e w' ⟨rfl, rfl⟩; rw [← HM.out])
    go_ret
    exact ⟨rfl, rfl⟩
  · rw [if_neg h5]
    by_cases h8 : m < 8
    · rw [if_pos h8]
      go_enter Try.func24, Try.ntmps24
      go_wp2_with (go_at_call 27; refine (bring_any n 16 _ (by omega)).mono ?_; rintro e w' ⟨rfl, rfl⟩; rw [← HM.out])
      go_ret
      exact ⟨rfl, rfl⟩
    · rw [if_neg h8]
      go_enter Try.func24, Try.ntmps24
      go_wp2_with (go_at_call 27; refine (bring_any n 16 _ (by omega)).mono ?_; rintro e w' ⟨rfl, rfl⟩; rw [← HM.out])
      go_ret
      exact ⟨rfl, rfl⟩
end Go.Proofs.Ytekedgokmmkplaa
