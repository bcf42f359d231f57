/- Paths: their contracts. -/
import Derived.Test.YtdnbbjhickjnmaaF1
import Derived.Laws.Externs
import Derived.Deep.OwnRows
namespace Go.Proofs.Ytdnbbjhickjnmaa
open Go.RowKit
set_option maxRecDepth 20000
set_option linter.unusedVariables false
set_option linter.unusedSimpArgs false

theorem call_frombits (n : Int) (w : World) : (callFunc 70 #[.int .u64 n]).run Try.prog w = .ok (.value (.float .f64 n.toNat)) w :=
  run_callFunc_extern (e := Extern.MathFloatBits.float64frombits) Try.func70 (by kernel_rfl) (by kernel_rfl) (by kernel_rfl) (by kernel_rfl) _ w

theorem inf_any (w : World) : Calls Try.prog 45 #[.int .i64 1] w fun e w' => e = .returned (.float .f64 9218868437227405312) ∧ w = w' := by
  have h70 := call_frombits 9218868437227405312 w
  go_enter Try.func45, Try.ntmps45
  go_wp2
  go_ret
  exact ⟨rfl, rfl⟩

def infB (x : Nat) : Bool := FloatKind.f64.format.order x 9218868437227405311 == some .gt
theorem isinf_any (x : Nat) (w : World) : Calls Try.prog 38 #[.float .f64 x, .int .i64 1] w fun e w' => e = .returned (.bool (infB x)) ∧ w = w' := by
  go_enter Try.func38, Try.ntmps38
  go_wp2
  go_ret
  exact ⟨rfl, rfl⟩

/-- Scores, and whether they are told. -/
abbrev Pth := List (Nat × Bool)
def pcells (l : Pth) : List Value := l.flatMap fun x => [.float .f64 x.1, .bool x.2]
theorem pcells_length (l : Pth) : (pcells l).length = l.length * 2 := by
  induction l with
  | nil => rfl
  | cons x l ih => simp [pcells] at ih ⊢; omega
theorem pcells_cons (x : Nat × Bool) (l : Pth) : pcells (x :: l) = .float .f64 x.1 :: .bool x.2 :: pcells l := rfl
theorem pcells_at (l : Pth) : ∀ (k : Nat) (hk : k < l.length), (pcells l)[k * 2]? = some (.float .f64 l[k].1) ∧ (pcells l)[k * 2 + 1]? = some (.bool l[k].2) := by
  induction l with
  | nil => intro k hk; simp at hk
  | cons x l ih =>
    intro k hk
    cases k with
    | zero => exact ⟨rfl, rfl⟩
    | succ k =>
      have := ih k (by simpa using hk)
      rw [pcells_cons]
      rw [show (k + 1) * 2 = k * 2 + 1 + 1 from by omega]
      simpa using this
theorem pcells_set (l : Pth) : ∀ (k : Nat) (s : Nat) (b : Bool), k < l.length → ((pcells l).set (k * 2) (.float .f64 s)).set (k * 2 + 1) (.bool b) = pcells (l.set k (s, b)) := by
  induction l with
  | nil => intro k s b hk; simp at hk
  | cons x l ih =>
    intro k s b hk
    cases k with
    | zero => rfl
    | succ k =>
      have := ih k s b (by simpa using hk)
      rw [pcells_cons, show (k + 1) * 2 = k * 2 + 1 + 1 from by omega]
      simp only [List.set_cons_succ, pcells_cons]
      rw [this]

def PathsAt (w : World) (p g : Nat) (l : Pth) : Prop := Blk w p 81 #[.slice (some ⟨g, 0, none⟩) l.length l.length] ∧ Blk w g 89 (pcells l).toArray ∧ 0 < l.length ∧ l.length ≤ 4
theorem PathsAt.kept {w w' : World} {S : Nat → Prop} {p g : Nat} {l : Pth} (h : PathsAt w p g l) (hm : Mod S w w') (hp : ¬ S p) (hg : ¬ S g) : PathsAt w' p g l := ⟨h.1.kept hm hp, h.2.1.kept hm hg, h.2.2⟩
theorem PathsAt.later {w w' : World} {p g : Nat} {l : Pth} (h : PathsAt w p g l) (hb : Below w.heap.size w w') : PathsAt w' p g l := ⟨h.1.later hb, h.2.1.later hb, h.2.2⟩
theorem PathsAt.ne {w : World} {p g : Nat} {l : Pth} (h : PathsAt w p g l) : p ≠ g := h.1.ne_ h.2.1 (by decide)

theorem info89 : (Try.prog.info? 89).map (fun i => (i.zero, i.size, i.bytes)) = some (some (.agg #[.float .f64 0, .bool false]), 2, 16) := by kernel_rfl

theorem made1 : madeCells (Value.agg #[.float .f64 0, .bool false]).cells (1 * 2) = (pcells (List.replicate 1 (0, false))).toArray := by kernel_rfl
theorem made2 : madeCells (Value.agg #[.float .f64 0, .bool false]).cells (2 * 2) = (pcells (List.replicate 2 (0, false))).toArray := by kernel_rfl
theorem made3 : madeCells (Value.agg #[.float .f64 0, .bool false]).cells (3 * 2) = (pcells (List.replicate 3 (0, false))).toArray := by kernel_rfl
theorem made4 : madeCells (Value.agg #[.float .f64 0, .bool false]).cells (4 * 2) = (pcells (List.replicate 4 (0, false))).toArray := by kernel_rfl
theorem make_paths (n : Nat) (h0 : 0 < n) (hn : n ≤ 4) (w : World) : (Instr.makeSlice 79 (.int .i64 n) (.int .i64 n)).run Try.prog w = .ok (.slice (some ⟨w.heap.size, 0, none⟩) n n) (w.alloc (.cells (pcells (List.replicate n (0, false))).toArray 89)) := by
  obtain ⟨i0, hi0, hz0, hz1, hz2⟩ := info_parts info89
  have hr := run_make (P := Try.prog) w 79 89 i0 _ Try.underlying79 hi0 hz0 .i64 .i64 n n (by omega) (Int.le_refl _) (by rw [hz2]; omega) (by omega)
  rw [hr, hz1, Int.toNat_natCast]
  have e : madeCells (Value.agg #[.float .f64 0, .bool false]).cells (n * 2) = (pcells (List.replicate n (0, false))).toArray := by
    obtain rfl | rfl | rfl | rfl : n = 1 ∨ n = 2 ∨ n = 3 ∨ n = 4 := by omega
    · exact made1
    · exact made2
    · exact made3
    · exact made4
  rw [e]

theorem begin_any (n : Nat) (hn : n ≤ 3) (w : World) : Calls Try.prog 28 #[.int .i64 n] w fun e w' => e = .returned (.tuple #[.pointer (some ⟨w.heap.size + 1, 0, none⟩), .int .i64 0]) ∧ Below w.heap.size w w' ∧ PathsAt w' (w.heap.size + 1) w.heap.size (List.replicate (n + 1) (0, false)) ∧ w'.heap.size = w.heap.size + 2 := by
  have hmk := make_paths (n + 1) (by omega) (by omega) w
  have e1 : ((n : Int) + 1) = ((n + 1 : Nat) : Int) := by omega
  rw [← e1] at hmk
  clear e1
  have e2 : (n : Int) + 1 ≤ 4 := by omega
  go_enter Try.func28, Try.ntmps28
  go_wp2
  go_ret2
  refine ⟨by simp, Ba (Ba (B0 w) _) _, ⟨?_, (Blk.new w 89 _).alloc _, by simp, by simp; omega⟩, by simp⟩
  rw [List.length_replicate]
  exact Blk.new1 w _ 81 _

theorem find_in (p g : Nat) (l : Pth) (k : Nat) (hk : k < l.length) (w : World) (h : PathsAt w p g l) : Calls Try.prog 52 #[.pointer (some ⟨p, 0, none⟩), .int .i64 k] w fun e w' => e = .returned (.tuple #[.pointer (some ⟨g, k * 2, none⟩), .int .i64 0]) ∧ w = w' := by
  obtain ⟨h1, h2, h3, h4⟩ := h
  obtain ⟨q0, z0⟩ := blk1 h1
  have e0 : ((l.length : Int) == 0) = false := by rw [beq_eq_false_iff_ne]; omega
  have e1 : (k : Int) < (l.length : Int) := by omega
  have e2 : (0 : Int) ≤ (k : Int) := by omega
  clear h1 h2 h3
  go_enter Try.func52, Try.ntmps52
  go_wp2
  go_ret2
  exact ⟨rfl, rfl⟩
def pin (l : Pth) (n : Int) : Bool := decide (0 ≤ n) && decide (n < l.length)
theorem find_out (p g : Nat) (l : Pth) (n : Int) (hn : pin l n = false) (w : World) (h : PathsAt w p g l) : Calls Try.prog 52 #[.pointer (some ⟨p, 0, none⟩), .int .i64 n] w fun e w' => e = .returned (.tuple #[.pointer none, .int .i64 9]) ∧ w = w' := by
  obtain ⟨h1, h2, h3, h4⟩ := h
  obtain ⟨q0, z0⟩ := blk1 h1
  have e0 : ((l.length : Int) == 0) = false := by rw [beq_eq_false_iff_ne]; omega
  clear h1 h2 h3
  by_cases h0 : n < 0
  · clear hn
    go_enter Try.func52, Try.ntmps52
    go_wp2
    go_ret2
    exact ⟨rfl, rfl⟩
  · have h1 : ¬ n < (l.length : Int) := by intro h; simp [pin, h] at hn; omega
    clear hn
    go_enter Try.func52, Try.ntmps52
    go_wp2
    go_ret2
    exact ⟨rfl, rfl⟩
end Go.Proofs.Ytdnbbjhickjnmaa
