/- Two lanes and the reference's beside them: what each call leaves of the others. No program's text is walked. -/
import Derived.Test.YtekedgokmmkplaaH6
namespace Go.Proofs.Ytekedgokmmkplaa
open Go.RowKit
set_option maxRecDepth 20000
set_option linter.unusedVariables false
set_option linter.unusedSimpArgs false

/-- A lane at a, the reference's at b, another lane at o, all from block B on, none in K. -/
def Tri (B : Nat) (K : Nat → Prop) (w : World) (a : Nat) (da : List Dg) (sa : Int) (b : Nat) (db : List Dg) (sb : Int) (o : Nat) : Prop :=
  B ≤ w.heap.size ∧ (∀ i, K i → i < w.heap.size) ∧ ∃ (Sa Sb So : Nat → Prop) (dd : List Dg) (so : Int), (∀ i, Sa i → Stays B K i) ∧ (∀ i, Sb i → Stays B K i) ∧ (∀ i, So i → Stays B K i) ∧
    (∀ i, Sa i → ¬ Sb i) ∧ (∀ i, Sa i → ¬ So i) ∧ (∀ i, Sb i → ¬ So i) ∧ LaneAt w Sa a da sa ∧ RlAt w Sb b db sb ∧ LaneAt w So o dd so
def No : Nat → Prop := fun _ => False
theorem LaneAt.lt {w : World} {S : Nat → Prop} {p : Nat} {ds : List Dg} {sd : Int} (h : LaneAt w S p ds sd) : ∀ i, S i → i < w.heap.size := h.2.1
section
variable {B : Nat} {K : Nat → Prop} {w w' : World} {a : Nat} {da : List Dg} {sa : Int} {b : Nat} {db : List Dg} {sb : Int} {o : Nat}
theorem Tri.below (h : Tri B K w a da sa b db sb o) (hb : Below w.heap.size w w') : Tri B K w' a da sa b db sb o := by
  obtain ⟨h1, h2, Sa, Sb, So, dd, so, a1, a2, a3, a4, a5, a6, r1, r2, r3⟩ := h
  exact ⟨Nat.le_trans h1 hb.size, fun i hi => Nat.lt_of_lt_of_le (h2 i hi) hb.size, Sa, Sb, So, dd, so, a1, a2, a3, a4, a5, a6, r1.below hb, r2.below hb, r3.below hb⟩
theorem Tri.keep {L : Nat → Prop} (h : Tri B K w a da sa b db sb o) (hb : Below w.heap.size w w') (hL : ∀ i, L i → (w.heap.size ≤ i ∧ i < w'.heap.size) ∨ K i) : Tri B L w' a da sa b db sb o := by
  obtain ⟨h1, h2, Sa, Sb, So, dd, so, a1, a2, a3, a4, a5, a6, r1, r2, r3⟩ := h
  have f : ∀ (S : Nat → Prop), (∀ i, S i → Stays B K i) → (∀ i, S i → i < w.heap.size) → ∀ i, S i → Stays B L i := by
    intro S hs hlt i hi
    refine ⟨(hs i hi).1, fun hl => ?_⟩
    rcases hL i hl with h | h
    · have := hlt i hi; omega
    · exact (hs i hi).2 h
  refine ⟨Nat.le_trans h1 hb.size, fun i hi => ?_, Sa, Sb, So, dd, so, f Sa a1 r1.lt, f Sb a2 r2.lt, f So a3 r3.lt, a4, a5, a6, r1.below hb, r2.below hb, r3.below hb⟩
  rcases hL i hi with h | h
  · exact h.2
  · exact Nat.lt_of_lt_of_le (h2 i h) hb.size
theorem Tri.other {T : Nat → Prop} (h : Tri B K w a da sa b db sb o) (hm : Mod T w w') (hT : ∀ i, T i → K i) : Tri B K w' a da sa b db sb o := by
  obtain ⟨h1, h2, Sa, Sb, So, dd, so, a1, a2, a3, a4, a5, a6, r1, r2, r3⟩ := h
  exact ⟨Nat.le_trans h1 hm.size, fun i hi => Nat.lt_of_lt_of_le (h2 i hi) hm.size, Sa, Sb, So, dd, so, a1, a2, a3, a4, a5, a6, r1.kept hm (fun i hi ht => (a1 i hi).2 (hT i ht)), r2.kept hm (fun i hi ht => (a2 i hi).2 (hT i ht)), r3.kept hm (fun i hi ht => (a3 i hi).2 (hT i ht))⟩
theorem stays_new {S S' : Nat → Prop} {n : Nat} (hn : B ≤ n) (hK : ∀ i, K i → i < n) (hS : ∀ i, S i → Stays B K i) (hs : ∀ i, S' i → S i ∨ n ≤ i) : ∀ i, S' i → Stays B K i := by
  intro i hi
  rcases hs i hi with h | h
  · exact hS i h
  · exact ⟨by omega, fun hk => by have := hK i hk; omega⟩
theorem apart_new {S S' T : Nat → Prop} {n : Nat} (hT : ∀ i, T i → i < n) (hS : ∀ i, S i → ¬ T i) (hs : ∀ i, S' i → S i ∨ n ≤ i) : ∀ i, S' i → ¬ T i := by
  intro i hi ht
  rcases hs i hi with h | h
  · exact hS i h ht
  · have := hT i ht; omega
/-- A call on the first lane. -/
theorem tri_a {v : Value} {e : Ending} {da' : List Dg} {sa' : Int} (h : Tri B K w a da sa b db sb o) (hd : ∀ S, LaneAt w S a da sa → Did S a da' sa' v w e w') :
    e = .returned v ∧ Tri B K w' a da' sa' b db sb o ∧ Mod (Stays B K) w w' := by
  obtain ⟨h1, h2, Sa, Sb, So, dd, so, a1, a2, a3, a4, a5, a6, r1, r2, r3⟩ := h
  obtain ⟨he, S', hm, hl, hs⟩ := hd Sa r1
  exact ⟨he, ⟨Nat.le_trans h1 hm.size, fun i hi => Nat.lt_of_lt_of_le (h2 i hi) hm.size, S', Sb, So, dd, so, stays_new h1 h2 a1 hs, a2, a3, apart_new r2.lt a4 hs, apart_new r3.lt a5 hs, a6, hl, r2.kept hm (fun i hb ha => a4 i ha hb), r3.kept hm (fun i hb ha => a5 i ha hb)⟩, hm.mono a1⟩
theorem call_a {fn : FuncId} {args : Array Value} {v : Value} {da' : List Dg} {sa' : Int} (h : Tri B K w a da sa b db sb o) (hd : ∀ S, LaneAt w S a da sa → Calls Try.prog fn args w (Did S a da' sa' v w)) :
    Calls Try.prog fn args w fun e w' => e = .returned v ∧ Tri B K w' a da' sa' b db sb o ∧ Mod (Stays B K) w w' := by
  obtain ⟨h1, h2, Sa, Sb, So, dd, so, a1, a2, a3, a4, a5, a6, r1, r2, r3⟩ := h
  refine (hd Sa r1).mono ?_
  rintro e w' ⟨he, S', hm, hl, hs⟩
  exact ⟨he, ⟨Nat.le_trans h1 hm.size, fun i hi => Nat.lt_of_lt_of_le (h2 i hi) hm.size, S', Sb, So, dd, so, stays_new h1 h2 a1 hs, a2, a3, apart_new r2.lt a4 hs, apart_new r3.lt a5 hs, a6, hl, r2.kept hm (fun i hb ha => a4 i ha hb), r3.kept hm (fun i hb ha => a5 i ha hb)⟩, hm.mono a1⟩
theorem call_b {fn : FuncId} {args : Array Value} {v : Value} {db' : List Dg} {sb' : Int} (h : Tri B K w a da sa b db sb o) (hd : ∀ S, RlAt w S b db sb → Calls Try.prog fn args w (RDid S b db' sb' v w)) :
    Calls Try.prog fn args w fun e w' => e = .returned v ∧ Tri B K w' a da sa b db' sb' o ∧ Mod (Stays B K) w w' := by
  obtain ⟨h1, h2, Sa, Sb, So, dd, so, a1, a2, a3, a4, a5, a6, r1, r2, r3⟩ := h
  refine (hd Sb r2).mono ?_
  rintro e w' ⟨he, S', hm, hl, hs⟩
  exact ⟨he, ⟨Nat.le_trans h1 hm.size, fun i hi => Nat.lt_of_lt_of_le (h2 i hi) hm.size, Sa, S', So, dd, so, a1, stays_new h1 h2 a2 hs, a3, fun i hi hs' => apart_new r1.lt (fun i ho ha => a4 i ha ho) hs i hs' hi, a5, apart_new r3.lt a6 hs, r1.kept hm a4, hl, r3.kept hm (fun i hb ha => a6 i ha hb)⟩, hm.mono a2⟩
theorem call_o {fn : FuncId} {args : Array Value} {V : List Dg → Value} {D : List Dg → List Dg} {E : Int → Int} (h : Tri B K w a da sa b db sb o) (hd : ∀ S dd so, LaneAt w S o dd so → Calls Try.prog fn args w (Did S o (D dd) (E so) (V dd) w)) :
    Calls Try.prog fn args w fun e w' => (∃ v, e = .returned v ∧ ∃ x, v = V x) ∧ Tri B K w' a da sa b db sb o ∧ Mod (Stays B K) w w' := by
  obtain ⟨h1, h2, Sa, Sb, So, dd, so, a1, a2, a3, a4, a5, a6, r1, r2, r3⟩ := h
  refine (hd So dd so r3).mono ?_
  rintro e w' ⟨rfl, S', hm, hl, hs⟩
  exact ⟨⟨_, rfl, _, rfl⟩, ⟨Nat.le_trans h1 hm.size, fun i hi => Nat.lt_of_lt_of_le (h2 i hi) hm.size, Sa, Sb, S', _, _, a1, a2, stays_new h1 h2 a3 hs, a4, fun i hi hs' => apart_new r1.lt (fun i ho ha => a5 i ha ho) hs i hs' hi, fun i hi hs' => apart_new r2.lt (fun i ho ha => a6 i ha ho) hs i hs' hi, r1.kept hm a5, r2.kept hm a6, hl⟩, hm.mono a3⟩
def Plus (K : Nat → Prop) (v : Value) (i : Nat) : Prop := K i ∨ v.ownBlock = some i
theorem take_a (n : Int) (h : Tri B K w a da sa b db sb o) :
    Calls Try.prog 31 #[.pointer (some ⟨a, 0, none⟩), .int .i64 n] w fun e w' => ∃ A c, e = .returned (.tuple #[.agg #[.int .i64 (seeD da n).f, .int .i64 (seeD da n).t, .slice A (seeD da n).bs.length c], .int .i64 (seeE da n)]) ∧
      w'.ownsRow w.heap.size 5 1 (.slice A (seeD da n).bs.length c) (seeD da n).bs.length (bts (seeD da n).bs) ∧ Tri B (Plus K (.slice A (seeD da n).bs.length c)) w' a (takL da n) sa b db sb o ∧ Mod (Stays B K) w w' := by
  obtain ⟨h1, h2, Sa, Sb, So, dd, so, a1, a2, a3, a4, a5, a6, r1, r2, r3⟩ := h
  refine (take_any Sa a da sa n w r1).mono ?_
  rintro e w' ⟨A, c, rfl, ho, hm, hl⟩
  have f : ∀ (S : Nat → Prop), (∀ i, S i → Stays B K i) → (∀ i, S i → i < w.heap.size) → ∀ i, S i → Stays B (Plus K (.slice A (seeD da n).bs.length c)) i := by
    intro S hs hlt i hi
    refine ⟨(hs i hi).1, fun hp => ?_⟩
    rcases hp with hp | hp
    · exact (hs i hi).2 hp
    · have := own_ge ho i hp; have := hlt i hi; omega
  refine ⟨A, c, rfl, ho, ⟨Nat.le_trans h1 hm.size, fun i hi => ?_, Sa, Sb, So, dd, so, f Sa a1 r1.lt, f Sb a2 r2.lt, f So a3 r3.lt, a4, a5, a6, hl, r2.kept hm (fun i hb ha => a4 i ha hb), r3.kept hm (fun i hb ha => a5 i ha hb)⟩, hm.mono a1⟩
  rcases hi with hi | hi
  · exact Nat.lt_of_lt_of_le (h2 i hi) hm.size
  · exact own_lt ho i hi
theorem take_b (n : Int) (h : Tri B K w a da sa b db sb o) (hmost : db.length ≤ 4000) :
    Calls Try.prog 34 #[.pointer (some ⟨b, 0, none⟩), .int .i64 n] w fun e w' => ∃ A c, e = .returned (.tuple #[.agg #[.int .i64 (seeD db n).f, .int .i64 (seeD db n).t, .slice A (seeD db n).bs.length c], .int .i64 (seeE db n)]) ∧
      w'.ownsRow w.heap.size 5 1 (.slice A (seeD db n).bs.length c) (seeD db n).bs.length (bts (seeD db n).bs) ∧ Tri B K w' a da sa b (takL db n) sb o ∧ Mod (Stays B K) w w' := by
  obtain ⟨h1, h2, Sa, Sb, So, dd, so, a1, a2, a3, a4, a5, a6, r1, r2, r3⟩ := h
  refine (rltake_any Sb b db sb n w r2 hmost).mono ?_
  rintro e w' ⟨A, c, rfl, ho, S', hm, hl, hs⟩
  exact ⟨A, c, rfl, ho, ⟨Nat.le_trans h1 hm.size, fun i hi => Nat.lt_of_lt_of_le (h2 i hi) hm.size, Sa, S', So, dd, so, a1, stays_new h1 h2 a2 hs, a3, fun i hi hs' => apart_new r1.lt (fun i ho ha => a4 i ha ho) hs i hs' hi, a5, apart_new r3.lt a6 hs, r1.kept hm a4, hl, r3.kept hm (fun i hb ha => a6 i ha hb)⟩, hm.mono a2⟩
theorem see_a (n : Int) (h : Tri B K w a da sa b db sb o) : Calls Try.prog 17 #[.pointer (some ⟨a, 0, none⟩), .int .i64 n] w (Seen da n w) := by
  obtain ⟨h1, h2, Sa, Sb, So, dd, so, a1, a2, a3, a4, a5, a6, r1, r2, r3⟩ := h
  exact see_any Sa a da sa n w r1
theorem see_b (n : Int) (h : Tri B K w a da sa b db sb o) (hmost : db.length ≤ 4096) : Calls Try.prog 18 #[.pointer (some ⟨b, 0, none⟩), .int .i64 n] w (Seen db n w) := by
  obtain ⟨h1, h2, Sa, Sb, So, dd, so, a1, a2, a3, a4, a5, a6, r1, r2, r3⟩ := h
  exact rlsee_any Sb b db sb n w r2 hmost
theorem tlen_a (h : Tri B K w a da sa b db sb o) : Calls Try.prog 25 #[.pointer (some ⟨a, 0, none⟩)] w fun e w' => e = .returned (.int .i64 da.length) ∧ w = w' := by
  obtain ⟨h1, h2, Sa, Sb, So, dd, so, a1, a2, a3, a4, a5, a6, r1, r2, r3⟩ := h
  exact len_any Sa a da sa w r1
theorem tlen_b (h : Tri B K w a da sa b db sb o) : Calls Try.prog 36 #[.pointer (some ⟨b, 0, none⟩)] w fun e w' => e = .returned (.int .i64 db.length) ∧ w = w' := by
  obtain ⟨h1, h2, Sa, Sb, So, dd, so, a1, a2, a3, a4, a5, a6, r1, r2, r3⟩ := h
  exact rllen_any Sb b db sb w r2
theorem treach_a (x y : Int) (h : Tri B K w a da sa b db sb o) (s0 : 0 ≤ sa) (s1 : sa < 9223372036854775808) : Calls Try.prog 20 #[.pointer (some ⟨a, 0, none⟩), .int .i64 x, .int .i64 y] w fun e w' => e = .returned (.bool (reachF sa x y)) ∧ ∃ n, w' = w.drewN n := by
  obtain ⟨h1, h2, Sa, Sb, So, dd, so, a1, a2, a3, a4, a5, a6, r1, r2, r3⟩ := h
  obtain ⟨_, _, _, l, sl, T, _, hb, _⟩ := r1
  exact reaches_any a sl sa x y w hb s0 s1
theorem treach_b (x y : Int) (h : Tri B K w a da sa b db sb o) : Calls Try.prog 21 #[.pointer (some ⟨b, 0, none⟩), .int .i64 x, .int .i64 y] w fun e w' => e = .returned (.bool (reachF sb x y)) ∧ ∃ n, w' = w.drewN n := by
  obtain ⟨h1, h2, Sa, Sb, So, dd, so, a1, a2, a3, a4, a5, a6, r1, r2, r3⟩ := h
  exact refreaches_any b sb x y w r2.side
end
theorem tri_len0 {B : Nat} {K : Nat → Prop} {w : World} {a : Nat} {da : List Dg} {sa : Int} {b : Nat} {db : List Dg} {sb : Int} {o : Nat} (h : Tri B K w a da sa b db sb o) : ∃ A c, w.cell? ⟨b, 0, none⟩ = some (.slice A db.length c) := by
  obtain ⟨h1, h2, Sa, Sb, So, dd, so, a1, a2, a3, a4, a5, a6, r1, r2, r3⟩ := h
  obtain ⟨_, _, l, sl, T, cs, h3, h4, h4a, h4b, _, h5, _⟩ := r2
  obtain ⟨A, c, rfl⟩ := own_slice h5
  refine ⟨A, c, ?_⟩
  rw [h4.cell 0, h4b, ← h3]
  simp
theorem tri_b_lt {B : Nat} {K : Nat → Prop} {w : World} {a : Nat} {da : List Dg} {sa : Int} {b : Nat} {db : List Dg} {sb : Int} {o : Nat} (h : Tri B K w a da sa b db sb o) : b < w.heap.size := by
  obtain ⟨h1, h2, Sa, Sb, So, dd, so, a1, a2, a3, a4, a5, a6, r1, r2, r3⟩ := h
  exact r2.lt _ r2.1
theorem sameD_refl (d : Dg) : sameF d.f d.t d.f d.t d.bs d.bs = true := by simp [sameF, eqB]
end Go.Proofs.Ytekedgokmmkplaa
