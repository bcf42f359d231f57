/- Two relays and the reference's beside them: what each call leaves of the others. No program's text is walked. -/
import Derived.Test.YtdnbbjhickjnmaaR24
namespace Go.Proofs.Ytdnbbjhickjnmaa
open Go.RowKit
set_option maxRecDepth 20000
set_option linter.unusedVariables false
set_option linter.unusedSimpArgs false

/-- A relay at a, the reference's at b, another relay at o, all from block B on, none in K; X lies within a's. -/
def Tri (B : Nat) (K X : Nat → Prop) (w : World) (a : Nat) (q : Nat → List Dg) (b : Nat) (ds : List Dg) (o : Nat) : Prop :=
  B ≤ w.heap.size ∧ (∀ i, K i → i < w.heap.size) ∧ ∃ (Sa Sb So : Nat → Prop) (qo : Nat → List Dg), (∀ i, Sa i → Stays B K i) ∧ (∀ i, Sb i → Stays B K i) ∧ (∀ i, So i → Stays B K i) ∧
    (∀ i, Sa i → ¬ Sb i) ∧ (∀ i, Sa i → ¬ So i) ∧ (∀ i, Sb i → ¬ So i) ∧ (∀ i, X i → Sa i) ∧ RelAt w Sa a q ∧ RrAt w Sb b ds ∧ RelAt w So o qo
def No : Nat → Prop := fun _ => False
section
variable {B : Nat} {K X : Nat → Prop} {w w' : World} {a : Nat} {q : Nat → List Dg} {b : Nat} {ds : List Dg} {o : Nat}
theorem Tri.free (h : Tri B K X w a q b ds o) : Tri B K No w a q b ds o := by
  obtain ⟨h1, h2, Sa, Sb, So, qo, a1, a2, a3, a4, a5, a6, a7, a8⟩ := h
  exact ⟨h1, h2, Sa, Sb, So, qo, a1, a2, a3, a4, a5, a6, fun i h => h.elim, a8⟩
theorem Tri.below (h : Tri B K X w a q b ds o) (hb : Below w.heap.size w w') : Tri B K X w' a q b ds o := by
  obtain ⟨h1, h2, Sa, Sb, So, qo, a1, a2, a3, a4, a5, a6, a7, r1, r2, r3⟩ := h
  exact ⟨Nat.le_trans h1 hb.size, fun i hi => Nat.lt_of_lt_of_le (h2 i hi) hb.size, Sa, Sb, So, qo, a1, a2, a3, a4, a5, a6, a7, r1.below hb, r2.below hb, r3.below hb⟩
/-- Blocks that are new stay from now on. -/
theorem Tri.keep {L : Nat → Prop} (h : Tri B K X w a q b ds o) (hb : Below w.heap.size w w') (hL : ∀ i, L i → (w.heap.size ≤ i ∧ i < w'.heap.size) ∨ K i) : Tri B L X w' a q b ds o := by
  obtain ⟨h1, h2, Sa, Sb, So, qo, a1, a2, a3, a4, a5, a6, a7, r1, r2, r3⟩ := h
  have f : ∀ (S : Nat → Prop), (∀ i, S i → Stays B K i) → (∀ i, S i → i < w.heap.size) → ∀ i, S i → Stays B L i := by
    intro S hs hlt i hi
    refine ⟨(hs i hi).1, fun hl => ?_⟩
    rcases hL i hl with h | h
    · have := hlt i hi; omega
    · exact (hs i hi).2 h
  refine ⟨Nat.le_trans h1 hb.size, fun i hi => ?_, Sa, Sb, So, qo, f Sa a1 r1.lt, f Sb a2 r2.2.1, f So a3 r3.lt, a4, a5, a6, a7, r1.below hb, r2.below hb, r3.below hb⟩
  rcases hL i hi with h | h
  · exact h.2
  · exact Nat.lt_of_lt_of_le (h2 i h) hb.size
theorem Tri.other {T : Nat → Prop} (h : Tri B K X w a q b ds o) (hm : Mod T w w') (hT : ∀ i, T i → K i) : Tri B K X w' a q b ds o := by
  obtain ⟨h1, h2, Sa, Sb, So, qo, a1, a2, a3, a4, a5, a6, a7, r1, r2, r3⟩ := h
  exact ⟨Nat.le_trans h1 hm.size, fun i hi => Nat.lt_of_lt_of_le (h2 i hi) hm.size, Sa, Sb, So, qo, a1, a2, a3, a4, a5, a6, a7, r1.kept hm (fun i hi ht => (a1 i hi).2 (hT i ht)), r2.kept hm (fun i hi ht => (a2 i hi).2 (hT i ht)), r3.kept hm (fun i hi ht => (a3 i hi).2 (hT i ht))⟩
theorem stays_new {S S' : Nat → Prop} {n : Nat} (hn : B ≤ n) (hK : ∀ i, K i → i < n) (hS : ∀ i, S i → Stays B K i) (hs : ∀ i, S' i → S i ∨ n ≤ i) : ∀ i, S' i → Stays B K i := by
  intro i hi
  rcases hs i hi with h | h
  · exact hS i h
  · exact ⟨by omega, fun hk => by have := hK i hk; omega⟩
theorem apart_new {S S' T : Nat → Prop} {n : Nat} (hT : ∀ i, T i → i < n) (hS : ∀ i, S i → ¬ T i) (hs : ∀ i, S' i → S i ∨ n ≤ i) : ∀ i, S' i → ¬ T i := by
  intro i hi ht
  rcases hs i hi with h | h
  · exact hS i h ht
  · have := hT i ht; omega
theorem put_o {T : Nat → Prop} (f t : Int) (A : Option Addr) (c : Nat) (bs : List Int) (h : Tri B K X w a q b ds o) (hr : Rd w T 1 (.slice A bs.length c) bs.length (bts bs)) (hT : ∀ i, T i → i < w.heap.size) :
    Calls Try.prog 16 #[.pointer (some ⟨o, 0, none⟩), .agg #[.int .i64 f, .int .i64 t, .slice A bs.length c]] w fun e w' => (∃ n, e = .returned (.int .i64 n)) ∧ Tri B K X w' a q b ds o ∧ Mod (Stays B K) w w' := by
  obtain ⟨h1, h2, Sa, Sb, So, qo, a1, a2, a3, a4, a5, a6, a7, r1, r2, r3⟩ := h
  refine (rput_any So T o qo f t A c bs w r3 hr hT).mono ?_
  rintro e w' ⟨rfl, S', hm, hl, hs⟩
  exact ⟨⟨_, rfl⟩, ⟨Nat.le_trans h1 hm.size, fun i hi => Nat.lt_of_lt_of_le (h2 i hi) hm.size, Sa, Sb, S', _, a1, a2, stays_new h1 h2 a3 hs, a4, fun i hi hs' => apart_new r1.lt (fun i ho ha => a5 i ha ho) hs i hs' hi, fun i hi hs' => apart_new r2.2.1 (fun i ho ha => a6 i ha ho) hs i hs' hi, a7, r1.kept hm a5, r2.kept hm a6, hl⟩, hm.mono a3⟩
theorem put_a {T : Nat → Prop} (f t : Int) (A : Option Addr) (c : Nat) (bs : List Int) (h : Tri B K X w a q b ds o) (hr : Rd w T 1 (.slice A bs.length c) bs.length (bts bs)) (hT : ∀ i, T i → i < w.heap.size) :
    Calls Try.prog 16 #[.pointer (some ⟨a, 0, none⟩), .agg #[.int .i64 f, .int .i64 t, .slice A bs.length c]] w fun e w' => e = .returned (.int .i64 (rputE q f t bs.length)) ∧ Tri B K No w' a (rputQ q f t bs) b ds o ∧ Mod (Stays B K) w w' := by
  obtain ⟨h1, h2, Sa, Sb, So, qo, a1, a2, a3, a4, a5, a6, a7, r1, r2, r3⟩ := h
  refine (rput_any Sa T a q f t A c bs w r1 hr hT).mono ?_
  rintro e w' ⟨rfl, S', hm, hl, hs⟩
  exact ⟨rfl, ⟨Nat.le_trans h1 hm.size, fun i hi => Nat.lt_of_lt_of_le (h2 i hi) hm.size, S', Sb, So, _, stays_new h1 h2 a1 hs, a2, a3, apart_new r2.2.1 a4 hs, apart_new r3.lt a5 hs, a6, fun i h => h.elim, hl, r2.kept hm (fun i hb ha => a4 i ha hb), r3.kept hm (fun i hb ha => a5 i ha hb)⟩, hm.mono a1⟩
theorem put_b {T : Nat → Prop} (f t : Int) (A : Option Addr) (c : Nat) (bs : List Int) (h : Tri B K X w a q b ds o) (hmost : ds.length ≤ 4095) (hr : Rd w T 1 (.slice A bs.length c) bs.length (bts bs)) (hT : ∀ i, T i → i < w.heap.size) :
    Calls Try.prog 21 #[.pointer (some ⟨b, 0, none⟩), .agg #[.int .i64 f, .int .i64 t, .slice A bs.length c]] w fun e w' => e = .returned (.int .i64 (refputE ds f t bs.length)) ∧ Tri B K X w' a q b (refputL ds f t bs) o ∧ Mod (Stays B K) w w' := by
  obtain ⟨h1, h2, Sa, Sb, So, qo, a1, a2, a3, a4, a5, a6, a7, r1, r2, r3⟩ := h
  refine (refput_any Sb T b ds f t A c bs w r2 hmost hr hT).mono ?_
  rintro e w' ⟨rfl, S', hm, hl, hs⟩
  exact ⟨rfl, ⟨Nat.le_trans h1 hm.size, fun i hi => Nat.lt_of_lt_of_le (h2 i hi) hm.size, Sa, S', So, _, a1, stays_new h1 h2 a2 hs, a3, fun i hi hs' => apart_new r1.lt (fun i ho ha => a4 i ha ho) hs i hs' hi, a5, apart_new r3.lt a6 hs, a7, r1.kept hm a4, hl, r3.kept hm (fun i hb ha => a6 i ha hb)⟩, hm.mono a2⟩
theorem take_a (n : Int) (h : Tri B K X w a q b ds o) :
    Calls Try.prog 17 #[.pointer (some ⟨a, 0, none⟩), .int .i64 n] w fun e w' => ∃ A c Y, e = .returned (.tuple #[.agg #[.int .i64 (takD q n).f, .int .i64 (takD q n).t, .slice A (takD q n).bs.length c], .int .i64 (takE q n)]) ∧
      Rd w' Y 1 (.slice A (takD q n).bs.length c) (takD q n).bs.length (bts (takD q n).bs) ∧ (∀ i, Y i → i < w'.heap.size) ∧ Tri B K Y w' a (takQ q n) b ds o ∧ Mod (Stays B K) w w' := by
  obtain ⟨h1, h2, Sa, Sb, So, qo, a1, a2, a3, a4, a5, a6, a7, r1, r2, r3⟩ := h
  refine (rtake_any Sa a q n w r1).mono ?_
  rintro e w' ⟨A, c, rfl, hr, hm, hl⟩
  exact ⟨A, c, Sa, rfl, hr, hl.lt, ⟨Nat.le_trans h1 hm.size, fun i hi => Nat.lt_of_lt_of_le (h2 i hi) hm.size, Sa, Sb, So, _, a1, a2, a3, a4, a5, a6, fun i hi => hi, hl, r2.kept hm (fun i hb ha => a4 i ha hb), r3.kept hm (fun i hb ha => a5 i ha hb)⟩, hm.mono a1⟩
theorem take_b (n : Int) (h : Tri B K X w a q b ds o) (hmost : ds.length ≤ 4096) :
    Calls Try.prog 18 #[.pointer (some ⟨b, 0, none⟩), .int .i64 n] w fun e w' => ∃ A c Y, e = .returned (.tuple #[.agg #[.int .i64 (reftakD ds n).f, .int .i64 (reftakD ds n).t, .slice A (reftakD ds n).bs.length c], .int .i64 (reftakE ds n)]) ∧
      Rd w' Y 1 (.slice A (reftakD ds n).bs.length c) (reftakD ds n).bs.length (bts (reftakD ds n).bs) ∧ (∀ i, Y i → i < w'.heap.size) ∧ Tri B K X w' a q b (reftakL ds n) o ∧ Mod (fun i => Stays B K i ∧ ¬ X i) w w' := by
  obtain ⟨h1, h2, Sa, Sb, So, qo, a1, a2, a3, a4, a5, a6, a7, r1, r2, r3⟩ := h
  refine (reftake_any Sb b ds n w r2 hmost).mono ?_
  rintro e w' ⟨A, c, rfl, S', hr, hm, hl, hs⟩
  exact ⟨A, c, S', rfl, hr, hl.2.1, ⟨Nat.le_trans h1 hm.size, fun i hi => Nat.lt_of_lt_of_le (h2 i hi) hm.size, Sa, S', So, _, a1, stays_new h1 h2 a2 hs, a3, fun i hi hs' => apart_new r1.lt (fun i ho ha => a4 i ha ho) hs i hs' hi, a5, apart_new r3.lt a6 hs, a7, r1.kept hm a4, hl, r3.kept hm (fun i hb ha => a6 i ha hb)⟩, hm.mono (fun i hi => ⟨a2 i hi, fun hx => a4 i (a7 i hx) hi⟩)⟩
theorem len_a (n : Int) (h : Tri B K X w a q b ds o) : Calls Try.prog 22 #[.pointer (some ⟨a, 0, none⟩), .int .i64 n] w fun e w' => e = .returned (.int .i64 (lenF q n)) ∧ w = w' := by
  obtain ⟨h1, h2, Sa, Sb, So, qo, a1, a2, a3, a4, a5, a6, a7, r1, r2, r3⟩ := h
  exact rlen_any Sa a q n w r1
theorem len_b (n : Int) (h : Tri B K X w a q b ds o) (hmost : ds.length ≤ 4096) : Calls Try.prog 23 #[.pointer (some ⟨b, 0, none⟩), .int .i64 n] w fun e w' => e = .returned (.int .i64 (cntF ds n)) ∧ w = w' := by
  obtain ⟨h1, h2, Sa, Sb, So, qo, a1, a2, a3, a4, a5, a6, a7, r1, r2, r3⟩ := h
  exact reflen_any Sb b ds n w r2 hmost
end
def lenOfW (w : World) (p : Nat) : Nat := match w.cell? ⟨p, 0, none⟩ with
  | some (.slice _ n _) => n
  | _ => 0
theorem tri_len {B : Nat} {K X : Nat → Prop} {w : World} {a : Nat} {q : Nat → List Dg} {b : Nat} {ds : List Dg} {o : Nat} (h : Tri B K X w a q b ds o) : lenOfW w b = ds.length := by
  obtain ⟨h1, h2, Sa, Sb, So, qo, a1, a2, a3, a4, a5, a6, a7, r1, r2, r3⟩ := h
  obtain ⟨_, _, l, sl, T, h3, h4, h5, _⟩ := r2
  obtain ⟨A, c, rfl⟩ := own_slice h5
  unfold lenOfW
  rw [h4.cell 0, ← h3]
  simp
theorem same_refl (d : Dg) : sameF d.f d.t d.f d.t d.bs d.bs = true := by simp [sameF, eqB]
theorem reftakL_lt {ds : List Dg} {n : Int} (h : nodeB n = true) (h0 : cntF ds n ≠ 0) : (reftakL ds n).length < ds.length := by
  have he : reftakE ds n = 0 := by simp [reftakE, h, h0]
  obtain ⟨i, hi, _, _, _, e⟩ := first_forN n ds h0
  rw [reftakL, if_pos he, e, List.length_eraseIdx_of_lt hi]
  omega
theorem reftakL_le (ds : List Dg) (n : Int) : (reftakL ds n).length ≤ ds.length := by
  unfold reftakL
  split
  · exact (List.eraseP_sublist).length_le
  · exact Nat.le_refl _
theorem refputL_le (ds : List Dg) (f t : Int) (bs : List Int) : (refputL ds f t bs).length ≤ ds.length + 1 := by
  unfold refputL
  split <;> simp
theorem cnt_node {q : Nat → List Dg} {ds : List Dg} (h : Tied q ds) {n : Int} (hn : nodeB n = false) : cntF ds n = 0 := by
  have := tied_len h n
  unfold lenF at this
  rw [hn] at this
  simp at this
  omega
end Go.Proofs.Ytdnbbjhickjnmaa
