/- Commands as values (plain words, and laws of their cells). -/
import Derived.Test.YtnphnaggamfoiaaC2
import Derived.Deep.MidRow
namespace Go.Proofs.Ytnphnaggamfoiaa
open Go.RowKit
set_option maxRecDepth 20000
set_option linter.unusedVariables false
set_option linter.unusedSimpArgs false

/-- An op: its key's bytes are 32. -/
structure Ox where
  kd : Int
  nd : Int
  ks : List Int
  ex : Int
  tx : ByteArray
  ti : Int
structure Co where
  s : Int
  q : Int
  o : Ox
def Ox.L (o : Ox) : List Value := .int .i64 o.kd :: .int .i64 o.nd :: (bts o.ks ++ [.int .i64 o.ex, .string o.tx, .int .i64 o.ti])
abbrev Ox.v (o : Ox) : Value := .agg o.L.toArray
def Co.L (c : Co) : List Value := .int .i64 c.s :: .int .i64 c.q :: c.o.L
abbrev Co.v (c : Co) : Value := .agg c.L.toArray
def z32 : List Int := List.replicate 32 0
def Ox.zero (kd : Int) : Ox := ⟨kd, 0, z32, 0, ByteArray.empty, 0⟩
theorem z32_len : z32.length = 32 := by simp [z32]
theorem Ox.len {o : Ox} (h : o.ks.length = 32) : o.L.length = 37 := by simp [Ox.L, bts, h]
theorem Co.len {c : Co} (h : c.o.ks.length = 32) : c.L.length = 39 := by simp [Co.L, Ox.len h]
/-- The cells of an op that lies from offset o on. -/
theorem ox_cells {w : World} {b o : Nat} {x : Ox} (h : w.rangeAt b o x.L) (hk : x.ks.length = 32) :
    w.cell? ⟨b, o, none⟩ = some (.int .i64 x.kd) ∧ w.cell? ⟨b, o + 1, none⟩ = some (.int .i64 x.nd) ∧ w.rangeAt b (o + 2) (bts x.ks) ∧ w.cell? ⟨b, o + 34, none⟩ = some (.int .i64 x.ex) ∧ w.cell? ⟨b, o + 35, none⟩ = some (.string x.tx) ∧ w.cell? ⟨b, o + 36, none⟩ = some (.int .i64 x.ti) := by
  have e34 : x.L[34]? = some (.int .i64 x.ex) := by simp [Ox.L, List.getElem?_append_right, hk, bts]
  have e35 : x.L[35]? = some (.string x.tx) := by simp [Ox.L, List.getElem?_append_right, hk, bts]
  have e36 : x.L[36]? = some (.int .i64 x.ti) := by simp [Ox.L, List.getElem?_append_right, hk, bts]
  refine ⟨h 0 _ rfl, h 1 _ rfl, fun j u hu => ?_, h 34 _ e34, h 35 _ e35, h 36 _ e36⟩
  have hj : j < (bts x.ks).length := (List.getElem?_eq_some_iff.1 hu).1
  have e : x.L[j + 2]? = some u := by
    simp only [Ox.L, List.getElem?_cons_succ]
    rw [List.getElem?_append_left hj, hu]
  have := h (j + 2) u e
  rwa [show o + (j + 2) = o + 2 + j by omega] at this
theorem co_op {w : World} {b : Nat} {c : Co} (h : w.rangeAt b 0 c.L) : w.cell? ⟨b, 0, none⟩ = some (.int .i64 c.s) ∧ w.cell? ⟨b, 1, none⟩ = some (.int .i64 c.q) ∧ w.rangeAt b 2 c.o.L :=
  ⟨h 0 _ rfl, h 1 _ rfl, fun j u hu => by
    have := h (j + 2) u (by simp only [Co.L, List.getElem?_cons_succ]; exact hu)
    rwa [show 0 + (j + 2) = 2 + j by omega] at this⟩
theorem info34 : (Try.prog.info? 34).map (·.size) = some 37 := by kernel_rfl
theorem info36 : (Try.prog.info? 36).map (·.size) = some 39 := by kernel_rfl
theorem info32 : (Try.prog.info? 32).map (·.size) = some 32 := by kernel_rfl
theorem load34 {w : World} {b o : Nat} {x : Ox} (h : w.rangeAt b o x.L) (hk : x.ks.length = 32) : (Instr.loadAt 34 (.pointer (some ⟨b, o, none⟩))).run Try.prog w = .ok x.v w :=
  run_loadAt_mid w b o 34 x.L _ h Try.underlying34 rfl (by rw [info34, Ox.len hk])
theorem load36 {w : World} {b : Nat} {c : Co} (h : w.rangeAt b 0 c.L) (hk : c.o.ks.length = 32) : (Instr.loadAt 36 (.pointer (some ⟨b, 0, none⟩))).run Try.prog w = .ok c.v w :=
  run_loadAt_mid w b 0 36 c.L _ h Try.underlying36 rfl (by rw [info36, Co.len hk])
theorem L_one (o : Ox) : ∀ v ∈ o.L, v.oneCell' = true := by
  intro v hv
  simp only [Ox.L, List.mem_cons, List.mem_append, bts, List.mem_map, List.not_mem_nil, or_false] at hv
  rcases hv with rfl | rfl | ⟨x, _, rfl⟩ | rfl | rfl | rfl <;> rfl
end Go.Proofs.Ytnphnaggamfoiaa
