/- WireNests: a list of rows of bytes, read; what stands within what. -/
import Derived.Test.YtodijebpoipeiaaW12
import Derived.Test.YtodijebpoipeiaaQ1
namespace Go.Proofs.Ytodijebpoipeiaa
open Go.RowKit Go.WideShapes Go.ChangeShapes
set_option maxRecDepth 20000
set_option linter.unusedVariables false
set_option linter.unusedSimpArgs false

structure Bs1 where
  A : Option Addr
  c : Nat
  bs : List Int
def BsAt (W : World) (g o : Nat) (x : Bs1) : Prop :=
  Byt x.bs ∧ x.bs.length ≤ 140737488351232 ∧ Rd W (fun i => i < W.heap.size) 1 (.slice x.A x.bs.length x.c) x.bs.length (bts x.bs) ∧ W.cell? ⟨g, o, none⟩ = some (.slice x.A x.bs.length x.c)
structure BssRd (W : World) (A : Option Addr) (c : Nat) (l : List Bs1) : Prop where
  cap : l.length ≤ c
  most : c ≤ 9223372036854775807
  at_ : ∀ i (hi : i < l.length), ∃ g o, A = some ⟨g, o, none⟩ ∧ g < W.heap.size ∧ BsAt W g (o + i) l[i]
theorem open_bytess {H : Type} {enc : TypeId × Value → H} {W : World} {base : Nat} {sp : Nat → Bool} {held : Bool} {v : Value} {d : DataW H} {p : List MemPlace} (hv : Value.okWide Try.prog W .any base 55 v) (ht : DataW.Trod enc Try.prog W 0 sp held 55 v d p)
    (hz : ∀ n ∈ d.weights Try.prog 55, n ≤ reachBytes) : ∃ A c l, v = .slice A l.length c ∧ BssRd W A c l := by
  obtain ⟨a1, len1, cap1, rfl⟩ := okWide_slice Try.underlying55 hv
  obtain ⟨fuel, hf⟩ := ht
  rcases Go.Deep.open_slice Try.underlying55 hf with ⟨hcs, hx⟩ | ⟨a, len, cap, m, n, D, Pl, hcs, _, hl, hm, hmm, hx, hel⟩
  · simp [Value.cells] at hcs
    obtain ⟨rfl, rfl, rfl⟩ := hcs
    exact ⟨none, 0, [], rfl, ⟨by simp, by omega, fun i hi => absurd hi (by simp)⟩⟩
  · simp [Value.cells] at hcs
    obtain ⟨rfl, rfl, rfl⟩ := hcs
    simp only [Prod.mk.injEq] at hx
    obtain ⟨rfl, _⟩ := hx
    unfold maxLen at hm
    have hlm : len1 ≤ m := by rw [hmm]; split <;> omega
    have hsp : 0 < len1 → a.spot = none := by
      intro h0
      obtain ⟨cs', hc, hd⟩ := hel 0 (by omega)
      rw [row_cells] at hc
      obtain ⟨hcl, hcj⟩ := cells_at hc
      have h := (cell_spot (hcj 0 (by omega))).1
      simpa [Addr.add] using h
    have each : ∀ i, i < len1 → ∃ y : Bs1, ∃ g o, a = ⟨g, o, none⟩ ∧ g < W.heap.size ∧ BsAt W g (o + i) y := by
      intro i hi
      obtain ⟨cs', hc, hd⟩ := hel i (by omega)
      rw [row_cells] at hc
      obtain ⟨hcl, hcj⟩ := cells_at hc
      obtain ⟨A, c', bs, hy, hb, hbl, hr⟩ := open_bytes_f hd (fun n hn => hz n (by
        simp only [DataW.weights, Try.underlying55]
        refine List.mem_cons_of_mem _ (List.mem_append_left _ (weights_all (List.mem_map.2 ⟨i, by simpa using hi, rfl⟩) n hn))))
      subst hy
      have c0 := hcj 0 (by simp)
      obtain ⟨g, o, s⟩ := a
      have hs : s = none := hsp (by omega)
      subst hs
      rw [addr_add, addr_add] at c0
      have hg := (cell_spot c0).2
      exact ⟨⟨A, c', bs⟩, g, o, rfl, hg, hb, hbl, hr, by simpa using c0⟩
    obtain ⟨l, hll, hq⟩ := list_of _ len1 each
    refine ⟨some a, cap1, l, by rw [hll], by rw [hll]; exact hl, by omega, fun i hi => ?_⟩
    obtain ⟨g, o, ha, hg, hc⟩ := hq i hi
    exact ⟨g, o, by rw [ha], hg, hc⟩

/-- A row of bytes with its length ahead. -/
def lay (a : List Int) : List Int := be 2 a.length ++ a
theorem num_two (n : Nat) (h : n < 65536) : num (be 2 (n : Int)) = n := by
  rw [num_be, show p256 2 = 65536 by decide]
  exact Int.emod_eq_of_lt (by omega) (by omega)
theorem lay_two (a r : List Int) : (lay a ++ r).take 2 = be 2 a.length ∧ (lay a ++ r).drop 2 = a ++ r := by
  have h : (be 2 (a.length : Int)).length = 2 := be_length _ _
  unfold lay
  rw [List.append_assoc]
  exact ⟨List.take_left' h, List.drop_left' h⟩
theorem ro_lay (a r : List Int) (most : Int) (h : a.length < 65536) (hm : (a.length : Int) ≤ most) : roE (lay a ++ r) most = 0 ∧ roV (lay a ++ r) most = a ∧ roL (lay a ++ r) most = r := by
  obtain ⟨h1, h2⟩ := lay_two a r
  have hn := num_two a.length h
  have hl : (lay a ++ r).length = 2 + a.length + r.length := by simp [lay, be_length]; omega
  have he : roE (lay a ++ r) most = 0 := by
    unfold roE
    rw [h1, hn, if_neg (by omega), if_neg (by omega), if_neg (by omega)]
  refine ⟨he, ?_, ?_⟩
  · unfold roV; rw [if_pos he, h1, h2, hn, Int.toNat_natCast]; exact List.take_left
  · unfold roL; rw [if_pos he, h1, h2, hn, Int.toNat_natCast]; exact List.drop_left
theorem oct_lay (xs a : List Int) (h : a.length < 65536) : octE a = 0 ∧ octL xs a = xs ++ lay a := by
  constructor
  · unfold octE; rw [if_neg (by omega)]
  · unfold octL lay; rw [if_neg (by omega)]
theorem byt_all (r : List Int) : bytE r r.length = 0 ∧ bytV r r.length = r ∧ bytL r r.length = [] := by
  have h : bytE r r.length = 0 := by unfold bytE; rw [if_neg (by omega), if_neg (by omega)]
  exact ⟨h, by unfold bytV; rw [if_pos h, Int.toNat_natCast]; simp, by unfold bytL; rw [if_pos h, Int.toNat_natCast]; simp⟩
theorem lay_byt {a : List Int} (h : Byt a) : Byt (lay a) := (be_byt _ _).append h
/-- What stands after k rounds. -/
def nest (b : List Int) (la lb : List Bs1) : Nat → List Int
  | 0 => b
  | k + 1 => lay ((la[k]?.elim [] (·.bs)).take 50) ++ (lay (nest b la lb k) ++ (lb[k]?.elim [] (·.bs)).take 50)
theorem nest_len (b : List Int) (la lb : List Bs1) (hb : b.length ≤ 300) (k : Nat) : (nest b la lb k).length ≤ 300 + 104 * k := by
  induction k with
  | zero => simpa [nest] using hb
  | succ k ih => simp only [nest, lay, List.length_append, be_length, List.length_take]; omega
theorem min_two (t : Array TypeId) (w : World) (a b m : Int) (h : m = min a b) : Sem.run Try.prog (Builtin.min_ t 3 #[.int .i64 a, .int .i64 b]) w = .ok (.int .i64 m) w := by
  subst h
  by_cases hab : a < b
  · have : min a b = a := by omega
    simp [Builtin.min_, Builtin.min2, go_sem, this]; omega
  · have : min a b = b := by omega
    simp [Builtin.min_, Builtin.min2, go_sem, this]; omega
theorem min_three (t : Array TypeId) (w : World) (a b c m : Int) (h : m = min (min a b) c) : Sem.run Try.prog (Builtin.min_ t 3 #[.int .i64 a, .int .i64 b, .int .i64 c]) w = .ok (.int .i64 m) w := by
  subst h
  have e : Sem.run Try.prog (Builtin.min_ t 3 #[.int .i64 a, .int .i64 b, .int .i64 c]) w = Sem.run Try.prog (do let x ← Builtin.min_ t 3 #[.int .i64 a, .int .i64 b]; Builtin.min_ t 3 #[x, .int .i64 c]) w := by
    simp [Builtin.min_]
  rw [e]
  simp [go_sem, min_two _ _ _ _ _ rfl]
end Go.Proofs.Ytodijebpoipeiaa
