/- The reference's writer: what it is in memory; Write; Put's refusals. -/
import Derived.Test.YtdnbbjhickjnmaaU2
import Derived.Test.YtdnbbjhickjnmaaY2
namespace Go.Proofs.Ytdnbbjhickjnmaa.Wr
open Go.RowKit
set_option maxRecDepth 20000
set_option linter.unusedVariables false
set_option maxRecDepth 20000
set_option linter.unusedSimpArgs false

structure Pc where
  A : Option Addr
  c : Nat
  bs : List Int
def Pc.v (x : Pc) : Value := .slice x.A x.bs.length x.c
def pcsV (l : List Pc) : List Value := l.map Pc.v
def flat (l : List Pc) : List Int := l.flatMap Pc.bs
def Pc.ok (w : World) (T : Nat → Prop) (x : Pc) : Prop := Rd w T 1 x.v x.bs.length (bts x.bs)
/-- The reference's writer at block p: the pieces' bytes are xs, of n pieces; S: all its blocks. -/
def RwAt (w : World) (S : Nat → Prop) (p : Nat) (xs : List Int) (n : Nat) : Prop :=
  S p ∧ (∀ i, S i → i < w.heap.size) ∧ ∃ (l : List Pc) (sl : Value) (T : Nat → Prop), flat l = xs ∧ l.length = n ∧ Blk w p 126 #[sl] ∧ w.ownsRow 0 29 1 sl l.length (pcsV l) ∧
    (∀ k, sl.ownBlock = some k → S k ∧ ¬ T k) ∧ (∀ i, T i → S i ∧ i ≠ p) ∧ ∀ x ∈ l, x.ok w T
theorem RwAt.kept {w w' : World} {S U : Nat → Prop} {p n : Nat} {xs : List Int} (h : RwAt w S p xs n) (hm : Mod U w w') (hd : ∀ i, S i → ¬ U i) : RwAt w' S p xs n := by
  obtain ⟨h1, h2, l, sl, T, h3, h3', h4, h5, h6, h7, h8⟩ := h
  exact ⟨h1, fun i hi => Nat.lt_of_lt_of_le (h2 i hi) hm.size, l, sl, T, h3, h3', h4.kept hm (hd _ h1), own_mod h5 hm (fun k hk => hd _ (h6 k hk).1) (Nat.le_refl _), h6, h7, fun x hx => (h8 x hx).kept hm (fun i hi => hd _ (h7 i hi).1)⟩
theorem RwAt.below {w w' : World} {S : Nat → Prop} {p n : Nat} {xs : List Int} (h : RwAt w S p xs n) (hb : Below w.heap.size w w') : RwAt w' S p xs n :=
  h.kept (Mod.of_below (S := fun _ => False) hb) (fun _ _ h => h)
/-- Behind a call to the reference's writer. -/
def UWDid (S : Nat → Prop) (p : Nat) (xs : List Int) (n : Nat) (v : Value) (w : World) (e : Ending) (w' : World) : Prop :=
  e = .returned v ∧ ∃ S', Mod S w w' ∧ RwAt w' S' p xs n ∧ ∀ i, S' i → S i ∨ w.heap.size ≤ i
theorem UWDid.same {S : Nat → Prop} {p n : Nat} {xs : List Int} {v : Value} {w w' : World} (h : RwAt w S p xs n) (hb : Below w.heap.size w w') : UWDid S p xs n v w (.returned v) w' :=
  ⟨rfl, S, Mod.of_below hb, h.below hb, fun i hi => .inl hi⟩

theorem rw_appended {S Tx : Nat → Prop} {p : Nat} {l : List Pc} {sl v2 : Value} {T : Nat → Prop} {x : Pc} {w W w2 : World} (h1 : S p) (h2 : ∀ i, S i → i < w.heap.size) (h4 : Blk w p 126 #[sl]) (h5 : w.ownsRow 0 29 1 sl l.length (pcsV l))
    (h6 : ∀ k, sl.ownBlock = some k → S k ∧ ¬ T k) (h7 : ∀ i, T i → S i ∧ i ≠ p) (h8 : ∀ x ∈ l, x.ok w T) (hb : Below w.heap.size w W) (hx : Rd W Tx 1 x.v x.bs.length (bts x.bs)) (hTx : ∀ i, Tx i → w.heap.size ≤ i ∧ i < W.heap.size)
    (HA : Appended (W.alloc (.cells #[x.v] 29)) 0 29 1 sl (l.length + 1) (pcsV l ++ [x.v]) v2 w2) (v : Value) : UWDid S p (flat l ++ x.bs) (l.length + 1) v w (.returned v) (w2.setCell ⟨p, 0, none⟩ v2) := by
  have hlt : ∀ i, S i → i < W.heap.size := fun i hi => Nat.lt_of_lt_of_le (h2 i hi) hb.size
  have hmA : Mod (fun k => sl.ownBlock = some k) (W.alloc (.cells #[x.v] 29)) w2 := (Mod.refl _ _).grown HA.grown (fun k hk => .inl hk)
  have hm2 : Mod (fun k => sl.ownBlock = some k) W w2 := ((Mod.refl _ _).alloc _).trans hmA (fun i hi => .inl hi)
  have hm3 : Mod (fun k => sl.ownBlock = some k ∨ k = p) W (w2.setCell ⟨p, 0, none⟩ v2) := (hm2.mono (fun i hi => .inl hi)).setCell (.inl (.inr rfl)) _
  have hp2 : Blk w2 p 126 #[sl] := (h4.later hb).kept hm2 (fun h => own_ne_blk h5 h4 (by decide) h)
  have hown := HA.own
  have hv2 : ∀ k, v2.ownBlock = some k → k = W.heap.size + 1 ∨ sl.ownBlock = some k := by
    intro k hk
    rcases HA.at_ with e | e
    · exact .inr (e ▸ hk)
    · left
      rw [e] at hk
      injection hk with hk
      simp at hk
      exact hk.symm
  refine ⟨rfl, fun k => S k ∨ (w.heap.size ≤ k ∧ k < w2.heap.size), ?_, ?_, fun i hi => hi.imp id And.left⟩
  · exact (Mod.of_below (S := S) hb).trans hm3 (fun i hi => by
      rcases hi with hi | rfl
      · exact .inl (h6 i hi).1
      · exact .inl h1)
  · have hp : p < W.heap.size := hlt p h1
    have hsz : W.heap.size ≤ w2.heap.size := hm2.size
    refine ⟨.inl h1, ?_, l ++ [x], v2, fun k => T k ∨ (w.heap.size ≤ k ∧ k < W.heap.size), by simp [flat], by simp, ?_, ?_, ?_, ?_, ?_⟩
    · intro i hi
      simp only [World.size_setCell]
      rcases hi with hi | hi
      · exact Nat.lt_of_lt_of_le (hlt i hi) hsz
      · exact hi.2
    · exact (by simpa using hp2.set_ 0 v2)
    · rw [show pcsV (l ++ [x]) = pcsV l ++ [x.v] by simp [pcsV], List.length_append]
      refine own_mod (T := fun k => k = p) hown ((Mod.refl (fun k => k = p) w2).setCell (.inl rfl) _) ?_ (Nat.le_refl _)
      intro k hk hkp
      subst hkp
      exact own_ne_blk hown hp2 (by decide) hk
    · intro k hk
      have hk2 := own_lt hown k hk
      rcases hv2 k hk with rfl | hk'
      · refine ⟨.inr ⟨?_, hk2⟩, ?_⟩
        · have := hb.size; omega
        · rintro (hu | hu)
          · have := hlt _ (h7 _ hu).1; omega
          · omega
      · refine ⟨.inl (h6 k hk').1, ?_⟩
        rintro (hu | hu)
        · exact (h6 k hk').2 hu
        · have := h2 k (h6 k hk').1; omega
    · intro i hi
      rcases hi with hi | hi
      · exact ⟨.inl (h7 i hi).1, (h7 i hi).2⟩
      · exact ⟨.inr ⟨hi.1, by omega⟩, by have := h2 p h1; omega⟩
    · intro y hy
      rcases List.mem_append.1 hy with hy | hy
      · have h9 := ((h8 y hy).kept (Mod.of_below (S := fun _ => False) hb) (fun _ _ h => h)).kept hm3 (by
          rintro i hi (hk | rfl)
          · exact (h6 i hk).2 hi
          · exact (h7 _ hi).2 rfl)
        exact h9.mono (fun i hi => .inl hi)
      · simp only [List.mem_singleton] at hy
        subst hy
        refine (hx.kept hm3 ?_).mono (fun i hi => .inr (hTx i hi))
        rintro i hi (hk | rfl)
        · have := h2 i (h6 i hk).1; have := hTx i hi; omega
        · have := h2 i h1; have := hTx i hi; omega

theorem uwrite_any (w : World) : Calls Try.prog 58 #[] w fun e w' => e = .returned (.pointer (some ⟨w.heap.size, 0, none⟩)) ∧ RwAt w' (fun i => i = w.heap.size) w.heap.size [] 0 ∧ Below w.heap.size w w' := by
  go_enter Try.func58, Try.ntmps58
  go_wp2
  go_ret
  refine ⟨by simp, ⟨rfl, by simp, [], .slice none 0 0, fun _ => False, rfl, rfl, Blk.new w _ _, World.ownsRow_nil _ _ _ _, by simp [Value.ownBlock], fun i h => h.elim, by simp⟩, Ba (B0 w) _⟩

theorem uput_arg (p : Nat) (v size : Int) (w : World) (h : size < 1 ∨ 8 < size) :
    Calls Try.prog 59 #[.pointer (some ⟨p, 0, none⟩), .int .i64 v, .int .i64 size] w fun e w' => e = .returned (.int .i64 2) ∧ w = w' := by
  have hs : (decide (0 < size) && decide (size < 9)) = false := by
    rw [Bool.and_eq_false_iff]
    rcases h with h | h
    · left; simp; omega
    · right; simp; omega
  have HS := Lib.hid hs
  clear h hs
  go_enter Try.func59, Try.ntmps59
  go_wp2_with fail
  refine (usize_any size w).mono ?_
  rintro e w' ⟨rfl, rfl⟩
  rw [HS.out]
  go_wp2_with fail
  go_ret
  exact ⟨rfl, rfl⟩

theorem uput_neg (p : Nat) (v : Int) (n : Nat) (w : World) (h1 : 1 ≤ n) (h8 : n ≤ 8) (hv : v < 0) (hv0 : -9223372036854775808 ≤ v) :
    Calls Try.prog 59 #[.pointer (some ⟨p, 0, none⟩), .int .i64 v, .int .i64 n] w fun e w' => e = .returned (.int .i64 9) ∧ Below w.heap.size w w' := by
  have hs : (decide (0 < (n : Int)) && decide ((n : Int) < 9)) = true := by simp; omega
  have HS := Lib.hid hs
  have hn1 : (1 : Int) ≤ n := by omega
  have hn8 : (n : Int) ≤ 8 := by omega
  have hbit : (bitL v 64)[0]? = some 1 := by
    rw [bitL_at v 64 0 (by omega)]
    congr 1
    show v / 2 ^ 63 % 2 = 1
    omega
  have HBI := Lib.hid hbit
  clear hs hbit
  go_enter Try.func59, Try.ntmps59
  go_wp2_with fail
  refine (usize_any _ w).mono ?_
  rintro e w' ⟨rfl, rfl⟩
  rw [HS.out]
  go_wp2_with fail
  refine (ubits_any v hv0 (by omega) _).mono ?_
  rintro e w1 ⟨rfl, hb1, hB⟩
  have HB := Lib.hid hb1
  have c0 : w1.cell? ⟨w.heap.size, 0, none⟩ = some (.int .i64 1) := by rw [hB.cell]; simp [ints_getElem?, HBI.out]
  clear hb1 hB
  by_cases hn : n = 8
  · subst hn
    go_wp2_with fail
    refine wp_loop_rounds 1 ?_
    rw [rounds_succ]
    go_wp2_with fail
    go_ret
    exact ⟨rfl, HB.out⟩
  · have hlt : (0 : Int) < 64 - 8 * (n : Int) := by omega
    clear hn
    go_wp2_with fail
    refine wp_loop_rounds 1 ?_
    rw [rounds_succ]
    go_wp2_with fail
    go_ret
    exact ⟨rfl, HB.out⟩
end Go.Proofs.Ytdnbbjhickjnmaa.Wr
