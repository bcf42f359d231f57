/- The chapter's message and its bytes. -/
import Derived.Test.YtnphnaggamfoiaaS1
import Derived.Lib.SmallJoins
namespace Go.Proofs.Ytnphnaggamfoiaa
open Go.RowKit
set_option maxRecDepth 20000
set_option linter.unusedVariables false
set_option linter.unusedSimpArgs false

def usB : List Int := [3, 1, 3, 0, 0, 0, 0, 0, 0, 5, 0, 0, 0, 0, 0, 0, 7, 0, 0, 0, 0, 0, 0, 4, 0, 0, 0, 0, 0, 0, 0, 0, 0, 0, 0, 0, 0, 0, 1, 0, 0, 0, 0, 0, 0, 5, 0, 0, 1, 120]
abbrev usP (A : Option Addr) : Po := ⟨3, 1, 3, 5, 7, 4, 0, false, 0, A, 1, 1, 0, 0, 0, none, 0, 0⟩
def usE : Ed := ⟨5, 8, 0, [120]⟩
def UsDid (w : World) (e : Ending) (w' : World) : Prop :=
  ∃ A B l, e = .returned (.tuple #[(usP A).v, .slice B 50 50]) ∧ PoAt w' (fun i => w.heap.size ≤ i ∧ i < w'.heap.size) (usP A) l [] ∧ l.map En.ed = [usE] ∧ Rd w' (fun i => w.heap.size ≤ i ∧ i < w'.heap.size) 1 (.slice B 50 50) 50 (bts usB) ∧ Below w.heap.size w w'
theorem rd_row {w : World} {S : Nat → Prop} {g sz n : Nat} {cs : List Value} (hS : S g) (hl : cs.length = n * sz) (hn : n ≤ maxLen) (hc : ∀ j : Nat, w.cell? ⟨g, j, none⟩ = cs[j]?) : Rd w S sz (.slice (some ⟨g, 0, none⟩) n n) n cs :=
  ⟨hl, _, n, rfl, Nat.le_refl _, hn, fun _ => ⟨g, 0, rfl, hS, fun j u hu => by rw [Nat.zero_add, hc, hu]⟩⟩
theorem us_at (w : World) (o1 o4 : Obj) : UsDid w (.returned (.tuple #[(usP (some ⟨w.heap.size + 1 + 1, 0, none⟩)).v, .slice (some ⟨w.heap.size + 1 + 1 + 1 + 1, 0, none⟩) 50 50]))
    (((((w.alloc o1).alloc (.cells #[.int .u8 120] 5 (1, 2))).alloc (.cells #[.int .i64 5, .int .i64 8, .int .i64 0, .slice (some ⟨w.heap.size + 1, 0, none⟩) 1 1] 46)).alloc o4).alloc (.cells (bts usB).toArray 5)) := by
  obtain ⟨w2, h2⟩ : ∃ u, u = (w.alloc o1).alloc (.cells #[.int .u8 120] 5 (1, 2)) := ⟨_, rfl⟩
  have c2 : ∀ j : Nat, w2.cell? ⟨w.heap.size + 1, j, none⟩ = (#[.int .u8 120] : Array Value)[j]? := fun j => by rw [h2]; exact Go.Joins.cell_alloc_mark_at (w.alloc o1) _ _ _ _ j (by simp)
  have s2 : w2.heap.size = w.heap.size + 1 + 1 := by rw [h2]; simp
  have b2 : Below w.heap.size w w2 := by rw [h2]; exact Ba (Ba (B0 w) _) _
  rw [← h2]
  clear h2
  obtain ⟨w3, h3⟩ : ∃ u, u = w2.alloc (.cells #[.int .i64 5, .int .i64 8, .int .i64 0, .slice (some ⟨w.heap.size + 1, 0, none⟩) 1 1] 46) := ⟨_, rfl⟩
  have k3 : Blk w3 (w.heap.size + 1 + 1) 46 #[.int .i64 5, .int .i64 8, .int .i64 0, .slice (some ⟨w.heap.size + 1, 0, none⟩) 1 1] := by rw [h3, ← s2]; exact Blk.new _ _ _
  have s3 : w3.heap.size = w.heap.size + 1 + 1 + 1 := by rw [h3]; simp [s2]
  have b3 : Below w2.heap.size w2 w3 := by rw [h3]; exact Ba (B0 w2) _
  rw [← h3]
  clear h3
  have k5 := Blk.new (w3.alloc o4) 5 (bts usB).toArray
  have s4 : (w3.alloc o4).heap.size = w.heap.size + 1 + 1 + 1 + 1 := by simp [s3]
  rw [s4] at k5
  have s5 : ((w3.alloc o4).alloc (.cells (bts usB).toArray 5)).heap.size = w.heap.size + 1 + 1 + 1 + 1 + 1 := by simp [s3]
  have b5 : Below w3.heap.size w3 ((w3.alloc o4).alloc (.cells (bts usB).toArray 5)) := Ba (Ba (B0 w3) _) _
  obtain ⟨w5, h5⟩ : ∃ u, u = (w3.alloc o4).alloc (.cells (bts usB).toArray 5) := ⟨_, rfl⟩
  rw [← h5] at k5 s5 b5 ⊢
  clear h5 s4
  have k35 := k3.later b5
  have c5 : ∀ j : Nat, w5.cell? ⟨w.heap.size + 1, j, none⟩ = (#[.int .u8 120] : Array Value)[j]? := fun j => by
    rw [← c2 j]
    exact ((Bt b3 b5).cell (p := ⟨w.heap.size + 1, j, none⟩) (by show w.heap.size + 1 < w2.heap.size; omega))
  refine ⟨_, _, [⟨5, 8, 0, some ⟨w.heap.size + 1, 0, none⟩, 1, [120]⟩], rfl, ⟨fun i hi => hi.2, rfl, by show (1 : Nat) ≤ _; omega, ?_, ?_, rfl, by show (0 : Nat) ≤ _; omega, Rd.nil _ _ _⟩, rfl, ?_, Bt b2 (Bt b3 b5)⟩
  · exact rd_row (n := 1) (by show _ ∧ _; omega) rfl (by simp [maxLen]) (fun j => (k35.cell j).trans (by simp [rowE, En.cells]))
  · intro x hx
    simp only [List.mem_singleton] at hx
    subst hx
    exact ⟨rd_row (n := 1) (by show _ ∧ _; omega) rfl (by simp [maxLen]) (fun j => (c5 j).trans (by simp [bts])), by show (1 : Nat) ≤ _; omega⟩
  · exact rd_row (n := 50) (by show _ ∧ _; omega) rfl (by simp [maxLen]) (fun j => by rw [k5.cell j]; simp)
set_option maxHeartbeats 4000000 in
theorem usual_any (w : World) : Calls Try.prog 21 #[] w (UsDid w) := by
  have hcv := Go.Joins.run_convert_bytes_const_at (P := Try.prog) (w.alloc (.cells #[.int .i64 0, .int .i64 0, .int .i64 0, .int .i64 0, .int .i64 0, .int .i64 0, .int .i64 0, .bool false, .int .i64 0, .slice none 0 0, .int .i64 0, .int .i64 0, .int .i64 0, .slice none 0 0] 27)) 23 5 #[.int .u8 120] 1 1 (w.heap.size + 1) (by simp) Try.underlying23 Try.underlying5
  go_enter Try.func21, Try.ntmps21
  go_wp2_with fail
  refine bodyPost_ret (v := .tuple #[(usP (some ⟨w.heap.size + 1 + 1, 0, none⟩)).v, .slice (some ⟨w.heap.size + 1 + 1 + 1 + 1, 0, none⟩) 50 50]) (by simp [results, Try.results21, go_sem]) rfl ?_
  exact us_at w _ _
end Go.Proofs.Ytnphnaggamfoiaa
