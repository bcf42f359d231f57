/- The wire's calls as the statements use them: a writer or a reader of the call's own, beside other blocks that stay (K). -/
import Derived.Test.YtnphnaggamfoiaaW8
namespace Go.Proofs.Ytnphnaggamfoiaa.Wr
open Go.RowKit
set_option linter.unusedVariables false
set_option maxRecDepth 20000
set_option linter.unusedSimpArgs false

theorem _root_.Go.Proofs.Ytnphnaggamfoiaa.Byt.take {xs : List Int} (h : Byt xs) (n : Nat) : Byt (xs.take n) := fun x hx => h x (List.mem_of_mem_take hx)
theorem _root_.Go.Proofs.Ytnphnaggamfoiaa.Byt.drop {xs : List Int} (h : Byt xs) (n : Nat) : Byt (xs.drop n) := fun x hx => h x (List.mem_of_mem_drop hx)
theorem _root_.Go.Proofs.Ytnphnaggamfoiaa.Byt.append {xs ys : List Int} (h : Byt xs) (k : Byt ys) : Byt (xs ++ ys) := fun x hx => (List.mem_append.1 hx).elim (h x) (k x)
theorem _root_.Go.Proofs.Ytnphnaggamfoiaa.Byt.nil : Byt [] := fun x hx => by simp at hx

def roE (ys : List Int) (most : Int) : Int := if ys.length < 2 then 3 else if most < num (ys.take 2) then 5 else if ((ys.length : Int) - 2) < num (ys.take 2) then 3 else 0
def roV (ys : List Int) (most : Int) : List Int := if roE ys most = 0 then (ys.drop 2).take (num (ys.take 2)).toNat else []
def roL (ys : List Int) (most : Int) : List Int := if roE ys most = 0 then (ys.drop 2).drop (num (ys.take 2)).toNat else ys

/-- What may turn: what is new (from B on), but for the blocks of K. -/
def Stays (B : Nat) (K : Nat → Prop) (i : Nat) : Prop := B ≤ i ∧ ¬ K i
def WrIn (B : Nat) (K : Nat → Prop) (w : World) (p : Nat) (xs : List Int) : Prop := B ≤ w.heap.size ∧ (∀ i, K i → i < w.heap.size) ∧ ∃ S, (∀ i, S i → Stays B K i) ∧ WrAt w S p xs
def RdIn (B : Nat) (K : Nat → Prop) (w : World) (p : Nat) (ys : List Int) : Prop := B ≤ w.heap.size ∧ (∀ i, K i → i < w.heap.size) ∧ Byt ys ∧ ∃ S, (∀ i, S i → Stays B K i) ∧ RdAt w S p ys

theorem WrIn.below {B : Nat} {K : Nat → Prop} {w w' : World} {p : Nat} {xs : List Int} (h : WrIn B K w p xs) (hb : Below w.heap.size w w') : WrIn B K w' p xs := by
  obtain ⟨h1, h2, S, h6, h7⟩ := h
  exact ⟨Nat.le_trans h1 hb.size, fun i hi => Nat.lt_of_lt_of_le (h2 i hi) hb.size, S, h6, h7.below hb⟩
theorem RdIn.below {B : Nat} {K : Nat → Prop} {w w' : World} {p : Nat} {xs : List Int} (h : RdIn B K w p xs) (hb : Below w.heap.size w w') : RdIn B K w' p xs := by
  obtain ⟨h1, h2, h3, S, h6, h7⟩ := h
  exact ⟨Nat.le_trans h1 hb.size, fun i hi => Nat.lt_of_lt_of_le (h2 i hi) hb.size, h3, S, h6, h7.below hb⟩
/-- Blocks that are new stay from now on. -/
theorem WrIn.keep {B : Nat} {K L : Nat → Prop} {w w' : World} {p : Nat} {xs : List Int} (h : WrIn B K w p xs) (hb : Below w.heap.size w w') (hL : ∀ i, L i → (w.heap.size ≤ i ∧ i < w'.heap.size) ∨ K i) : WrIn B L w' p xs := by
  obtain ⟨h1, h2, S, h6, h7⟩ := h
  refine ⟨Nat.le_trans h1 hb.size, fun i hi => ?_, S, fun i hi => ⟨(h6 i hi).1, fun hl => ?_⟩, h7.below hb⟩
  · rcases hL i hi with h | h
    · exact h.2
    · exact Nat.lt_of_lt_of_le (h2 i h) hb.size
  · rcases hL i hl with h | h
    · have := h7.1 i hi; omega
    · exact (h6 i hi).2 h
theorem RdIn.keep {B : Nat} {K L : Nat → Prop} {w w' : World} {p : Nat} {xs : List Int} (h : RdIn B K w p xs) (hb : Below w.heap.size w w') (hL : ∀ i, L i → (w.heap.size ≤ i ∧ i < w'.heap.size) ∨ K i) : RdIn B L w' p xs := by
  obtain ⟨h1, h2, h3, S, h6, h7⟩ := h
  have hlt : ∀ i, S i → i < w.heap.size := by obtain ⟨_, _, _, _, hh⟩ := h7; exact hh.1
  refine ⟨Nat.le_trans h1 hb.size, fun i hi => ?_, h3, S, fun i hi => ⟨(h6 i hi).1, fun hl => ?_⟩, h7.below hb⟩
  · rcases hL i hi with h | h
    · exact h.2
    · exact Nat.lt_of_lt_of_le (h2 i h) hb.size
  · rcases hL i hl with h | h
    · have := hlt i hi; omega
    · exact (h6 i hi).2 h

def WDidIn (B : Nat) (K : Nat → Prop) (p : Nat) (xs : List Int) (v : Value) (w : World) (e : Ending) (w' : World) : Prop := e = .returned v ∧ WrIn B K w' p xs ∧ Mod (Stays B K) w w'
theorem wdid_in {B : Nat} {K S : Nat → Prop} {p : Nat} {xs : List Int} {v : Value} {w w' : World} {e : Ending} (h1 : B ≤ w.heap.size) (h2 : ∀ i, K i → i < w.heap.size) (hS : ∀ i, S i → Stays B K i) (h : WDid S p xs v w e w') : WDidIn B K p xs v w e w' := by
  obtain ⟨he, S', hm, hl, hs⟩ := h
  refine ⟨he, ⟨Nat.le_trans h1 hm.size, fun i hi => Nat.lt_of_lt_of_le (h2 i hi) hm.size, S', fun i hi => ?_, hl⟩, hm.mono hS⟩
  rcases hs i hi with h | h
  · exact hS i h
  · exact ⟨by omega, fun hk => by have := h2 i hk; omega⟩

theorem write_in (K : Nat → Prop) (w : World) (hK : ∀ i, K i → i < w.heap.size) (B : Nat) (hB : B ≤ w.heap.size) : Calls Try.prog 43 #[] w fun e w' => e = .returned (.pointer (some ⟨w.heap.size + 1, 0, none⟩)) ∧ WrIn B K w' (w.heap.size + 1) [] ∧ Below w.heap.size w w' :=
  (write_any w).mono fun e w' ⟨he, hl, hb⟩ => ⟨he, ⟨Nat.le_trans hB hb.size, fun i hi => Nat.lt_of_lt_of_le (hK i hi) hb.size, _, fun i hi => ⟨by omega, fun hk => by have := hK _ hk; omega⟩, hl⟩, hb⟩
theorem put_in {B : Nat} {K : Nat → Prop} {p : Nat} {xs : List Int} (v size : Int) (hv : v < 9223372036854775808) (w : World) (h : WrIn B K w p xs) (hl : xs.length + 8 ≤ 140737488355328) :
    Calls Try.prog 67 #[.pointer (some ⟨p, 0, none⟩), .int .i64 v, .int .i64 size] w (WDidIn B K p (putL xs v size) (.int .i64 (putE v size)) w) := by
  obtain ⟨h1, h2, S, h6, h7⟩ := h
  exact (put_any S p xs v size w h7 hv hl).mono fun e w' hd => wdid_in h1 h2 h6 hd
theorem wbytes_in {B : Nat} {K T : Nat → Prop} {p : Nat} {xs : List Int} (bs : List Int) (Ab : Option Addr) (cb : Nat) (w : World) (h : WrIn B K w p xs) (hr : Rd w T 1 (.slice Ab bs.length cb) bs.length (bts bs)) (hT : ∀ i, T i → i < w.heap.size) (hl : xs.length + bs.length ≤ 140737488355328) :
    Calls Try.prog 105 #[.pointer (some ⟨p, 0, none⟩), .slice Ab bs.length cb] w (WDidIn B K p (xs ++ bs) (.int .i64 0) w) := by
  obtain ⟨h1, h2, S, h6, h7⟩ := h
  exact (wbytes_any S T p xs bs Ab cb w h7 hr hT hl).mono fun e w' hd => wdid_in h1 h2 h6 hd
theorem octets_in {B : Nat} {K T : Nat → Prop} {p : Nat} {xs : List Int} (bs : List Int) (Ab : Option Addr) (cb : Nat) (w : World) (h : WrIn B K w p xs) (hr : Rd w T 1 (.slice Ab bs.length cb) bs.length (bts bs)) (hT : ∀ i, T i → i < w.heap.size ∧ (i < B ∨ K i)) (hl : xs.length + bs.length + 8 ≤ 140737488355328) :
    Calls Try.prog 106 #[.pointer (some ⟨p, 0, none⟩), .slice Ab bs.length cb] w (WDidIn B K p (octL xs bs) (.int .i64 (octE bs)) w) := by
  obtain ⟨h1, h2, S, h6, h7⟩ := h
  exact (octets_any S T p xs bs Ab cb w h7 hr (fun i hi => ⟨(hT i hi).1, fun hs => by have := h6 i hs; rcases (hT i hi).2 with h | h; exact absurd this.1 (by omega); exact this.2 h⟩) hl).mono fun e w' hd => wdid_in h1 h2 h6 hd
theorem out_in {B : Nat} {K : Nat → Prop} {p : Nat} {xs : List Int} (w : World) (h : WrIn B K w p xs) (hl : xs.length ≤ 140737488355328) :
    Calls Try.prog 46 #[.pointer (some ⟨p, 0, none⟩)] w fun e w' => ∃ A c, e = .returned (.slice A xs.length c) ∧ Fresh w w' A c xs := by
  obtain ⟨h1, h2, S, h6, h7⟩ := h
  exact out_any S p xs w h7 hl

theorem rnew_in {T : Nat → Prop} (K : Nat → Prop) (Ab : Option Addr) (cb : Nat) (xs : List Int) (w : World) (hr : Rd w T 1 (.slice Ab xs.length cb) xs.length (bts xs)) (hT : ∀ i, T i → i < w.heap.size) (hl : xs.length ≤ 140737488355328) (hb : Byt xs) (hK : ∀ i, K i → i < w.heap.size) (B : Nat) (hB : B ≤ w.heap.size) :
    Calls Try.prog 47 #[.slice Ab xs.length cb] w fun e w' => ∃ p, e = .returned (.pointer (some ⟨p, 0, none⟩)) ∧ RdIn B K w' p xs ∧ Below w.heap.size w w' :=
  (rnew_any T Ab cb xs w hr hT hl).mono fun e w' ⟨p, S, he, hr, hb', hS⟩ => ⟨p, he, ⟨Nat.le_trans hB hb'.size, fun i hi => Nat.lt_of_lt_of_le (hK i hi) hb'.size, hb, S, fun i hi => ⟨Nat.le_trans hB (hS i hi), fun hk => by have := hS i hi; have := hK _ hk; omega⟩, hr⟩, hb'⟩

theorem rdid_in {B : Nat} {K S : Nat → Prop} {p : Nat} {ys : List Int} {w w' : World} (h1 : B ≤ w.heap.size) (h2 : ∀ i, K i → i < w.heap.size) (hb : Byt ys) (hS : ∀ i, S i → Stays B K i) (h : RDid S p ys w w') : RdIn B K w' p ys ∧ Mod (Stays B K) w w' :=
  ⟨⟨Nat.le_trans h1 h.1.size, fun i hi => Nat.lt_of_lt_of_le (h2 i hi) h.1.size, hb, S, hS, h.2⟩, h.1.mono hS⟩
theorem getL_byt {ys : List Int} (h : Byt ys) (n : Int) : Byt (getL ys n) := by unfold getL; split; exact h.drop _; exact h
theorem bytL_byt {ys : List Int} (h : Byt ys) (n : Int) : Byt (bytL ys n) := by unfold bytL; split; exact h.drop _; exact h
theorem roL_byt {ys : List Int} (h : Byt ys) (n : Int) : Byt (roL ys n) := by unfold roL; split; exact (h.drop _).drop _; exact h

theorem get_in {B : Nat} {K : Nat → Prop} {p : Nat} {ys : List Int} (size : Int) (w : World) (h : RdIn B K w p ys) :
    Calls Try.prog 70 #[.pointer (some ⟨p, 0, none⟩), .int .i64 size] w fun e w' => e = .returned (.tuple #[.int .i64 (getV ys size), .int .i64 (getE ys size)]) ∧ RdIn B K w' p (getL ys size) ∧ Mod (Stays B K) w w' := by
  obtain ⟨h1, h2, h3, S, h6, h7⟩ := h
  exact (get_any S p ys size w h7 h3).mono fun e w' ⟨he, hd⟩ => ⟨he, rdid_in h1 h2 (getL_byt h3 _) h6 hd⟩
theorem rbytes_in {B : Nat} {K : Nat → Prop} {p : Nat} {ys : List Int} (n : Int) (w : World) (h : RdIn B K w p ys) :
    Calls Try.prog 112 #[.pointer (some ⟨p, 0, none⟩), .int .i64 n] w fun e w' => ∃ A' c', e = .returned (.tuple #[.slice A' (bytV ys n).length c', .int .i64 (bytE ys n)]) ∧ w'.ownsRow w.heap.size 5 1 (.slice A' (bytV ys n).length c') (bytV ys n).length (bts (bytV ys n)) ∧ RdIn B K w' p (bytL ys n) ∧ Mod (Stays B K) w w' := by
  obtain ⟨h1, h2, h3, S, h6, h7⟩ := h
  exact (rbytes_any S p ys n w h7).mono fun e w' ⟨A', c', he, ho, hd⟩ => ⟨A', c', he, ho, rdid_in h1 h2 (bytL_byt h3 _) h6 hd⟩
theorem left_in {B : Nat} {K : Nat → Prop} {p : Nat} {ys : List Int} (w : World) (h : RdIn B K w p ys) :
    Calls Try.prog 50 #[.pointer (some ⟨p, 0, none⟩)] w fun e w' => e = .returned (.int .i64 ys.length) ∧ ∃ n, w' = w.drewN n := by
  obtain ⟨h1, h2, h3, S, h6, h7⟩ := h
  exact left_any S p ys w h7
end Go.Proofs.Ytnphnaggamfoiaa.Wr
