/- Literals: structs, slices of structs and keys; the head of a netmap as a value. -/
import Derived.Test.YtgmndppjdnpejaaB4
namespace Go.Proofs.Ytgmndppjdnpejaa
open Go.RowKit
set_option maxRecDepth 20000
set_option linter.unusedVariables false
set_option linter.unusedSimpArgs false

theorem fold_sets : ∀ (vs : List Value) (off k : Nat) (cs : Array Value), off + k + vs.length ≤ cs.size → (vs.zipIdx k).foldl (fun (a : Array Value) (p : Value × Nat) => a.setIfInBounds (off + p.2) p.1) cs = (cs.toList.take (off + k) ++ (vs ++ cs.toList.drop (off + k + vs.length))).toArray
  | [], off, k, cs, _ => by
    apply Array.ext'
    simp
  | v :: vs, off, k, cs, h => by
    rw [List.length_cons] at h
    rw [List.zipIdx_cons, List.foldl_cons, fold_sets vs off (k + 1) _ (by simp; omega)]
    apply Array.ext'
    simp only [Array.toList_setIfInBounds, List.length_cons]
    have hk : off + k < cs.toList.length := by simp; omega
    rw [show off + (k + 1) = off + k + 1 by omega]
    have e1 : (cs.toList.set (off + k) v).take (off + k + 1) = cs.toList.take (off + k) ++ [v] := by
      rw [List.take_succ_eq_append_getElem (by simpa using hk), List.take_set_of_le (Nat.le_refl _), List.getElem_set_self]
    have e2 : (cs.toList.set (off + k) v).drop (off + k + 1 + vs.length) = cs.toList.drop (off + k + (vs.length + 1)) := by
      rw [List.drop_set_of_lt (by omega), show off + k + 1 + vs.length = off + k + (vs.length + 1) by omega]
    rw [e1, e2]
    simp
theorem fill_one {place : Nat → Option (Nat × Nat)} {cells : List Value} {i off : Nat} {v : Value} {vs : List Value} {rest : List (Nat × Value)} (hv : v.cells = vs.toArray) (hp : place i = some (off, vs.length)) (hf : off + vs.length ≤ cells.length) :
    Instr.fill place cells.toArray ((i, v) :: rest) = Instr.fill place (cells.take off ++ (vs ++ cells.drop (off + vs.length))).toArray rest := by
  rw [Instr.fill, hp]
  simp only
  rw [if_neg (by simp [hv]; omega)]
  congr 1
  have := fold_sets vs off 0 cells.toArray (by simpa using hf)
  rw [Nat.add_zero] at this
  rw [hv, ← Array.foldl_toList, Array.toList_zipIdx]
  exact this
theorem run_build {t : TypeId} {fs : Array Field} {zero : Value} {places : Array (Nat × Nat)} (hu : Try.prog.underlying t = some (.struct fs)) (hz : ∀ w, (zeroValue t).run Try.prog w = .ok zero w) (hp : ∀ w, (fs.mapM (fun f => do pure (f.offset, ← sizeOf f.type)) : Sem _).run Try.prog w = .ok places w)
    {parts : Array (Nat × Value)} {cs : Array Value} (h : Instr.fill (places[·]?) zero.cells parts.toList = some cs) (w : World) : (Instr.build t parts).run Try.prog w = .ok (.agg cs) w := by
  unfold Instr.build
  simp only [Sem.run_bind, hz, run_underlying hu, Result.andThen_ok, hp, h, Sem.run_pure]
theorem step_build {t : TypeId} {ops : Array Oper} {rest : List Oper} {op : Oper} {a : Act} {w : World} {Q : Exit → Act → World → Prop} (hw : Region.wanted op (yielded ops a.tmps) = true) (ps : Array (Nat × Operand)) (ho : op.op = .build t ps)
    (l : List (Nat × Value)) (hl : (ps.toList.map fun (p : Nat × Operand) => (p.1, a.eval p.2)) = l) (cs : Array Value) (hr : (Instr.build t l.toArray).run Try.prog w = .ok (.agg cs) w)
    (h : wpList Try.prog ops Q rest (a.put op.dst (.agg cs)) w) : wpList Try.prog ops Q (op :: rest) a w :=
  BigFrame.wpList_want hw fun K hK => by
    unfold Oper.wp execOp
    have e : (ps.map fun (i, x) => (i, a.eval x)) = l.toArray := by apply Array.ext'; rw [← hl]; simp
    simp only [ho, e, hr, Sem.run_bind, Result.andThen_ok, Sem.run_pure]
    exact hK _ _ h
/-- Rows of a slice that is written out. -/
theorem fill_rows {sz : Nat} : ∀ (vs : List (List Value)) (i : Nat) (pre base : List Value), (∀ v ∈ vs, v.length = sz) → pre.length = i * sz → base.length = vs.length * sz →
    Instr.fill (fun i => some (i * sz, sz)) (pre ++ base).toArray ((vs.zipIdx i).map fun p => (p.2, Value.agg p.1.toArray)) = some (pre ++ vs.flatten).toArray
  | [], i, pre, base, _, _, hb => by
    have : base = [] := List.eq_nil_of_length_eq_zero (by simpa using hb)
    subst this
    rfl
  | v :: vs, i, pre, base, hv, hp, hb => by
    have hl := hv v (by simp)
    have hbl : base.length = sz + vs.length * sz := by rw [hb, List.length_cons, Nat.succ_mul]; omega
    rw [List.zipIdx_cons, List.map_cons]
    rw [fill_one (vs := v) (off := i * sz) rfl (by rw [hl]) (by rw [List.length_append, hl]; omega), hl]
    have e : (pre ++ base).take (i * sz) ++ (v ++ (pre ++ base).drop (i * sz + sz)) = (pre ++ v) ++ base.drop sz := by
      rw [← hp, List.take_left', List.drop_append, List.drop_of_length_le (by omega), List.nil_append, show pre.length + sz - pre.length = sz by omega, List.append_assoc]
      rfl
    rw [e, fill_rows vs (i + 1) (pre ++ v) (base.drop sz) (fun x hx => hv x (by simp [hx])) (by rw [List.length_append, hp, hl, Nat.succ_mul]) (by rw [List.length_drop, hbl]; omega), List.flatten_cons, List.append_assoc]
theorem step_rows {t e : TypeId} {n sz : Nat} (ht : Try.prog.underlying t = some (.slice e)) (hsz : ∀ w, (sizeOf e).run Try.prog w = .ok sz w) (z : Value) (hz : ∀ w, (zeroValue e).run Try.prog w = .ok z w) (hlim : n * sz ≤ 2 ^ 24) (hpos : n * sz ≠ 0)
    {ops : Array Oper} {rest : List Oper} {op : Oper} {a : Act} {w : World} {Q : Exit → Act → World → Prop} (hw : Region.wanted op (yielded ops a.tmps) = true) (ps : Array (Nat × Operand)) (ho : op.op = .buildSlice t n ps)
    (vs : List (List Value)) (hn : vs.length = n) (hv : ∀ v ∈ vs, v.length = sz) (hl : (ps.toList.map fun (p : Nat × Operand) => (p.1, a.eval p.2)) = (vs.zipIdx.map fun p => (p.2, Value.agg p.1.toArray))) (cs : List Value) (hcs : vs.flatten = cs)
    (h : wpList Try.prog ops Q rest (a.put op.dst (.slice (some ⟨w.heap.size, 0, none⟩) n n)) (w.alloc (.cells cs.toArray e))) : wpList Try.prog ops Q (op :: rest) a w :=
  BigFrame.wpList_want hw fun K hK => by
    unfold Oper.wp execOp
    subst hcs
    have e1 : (ps.map fun (i, x) => (i, a.eval x)).toList = (vs.zipIdx.map fun p => (p.2, Value.agg p.1.toArray)) := by rw [← hl]; simp
    have hf : Instr.fill (fun i => some (i * sz, sz)) ((Array.range (n * sz)).map (z.cells[· % z.cells.size]!)) (ps.map fun (i, x) => (i, a.eval x)).toList = some vs.flatten.toArray := by
      have := fill_rows (sz := sz) vs 0 [] ((Array.range (n * sz)).map (z.cells[· % z.cells.size]!)).toList hv (by simp) (by simp [hn])
      rw [e1]
      rw [List.nil_append, List.nil_append, Array.toArray_toList] at this
      exact this
    have hr : (Instr.buildSlice t n (ps.map fun (i, x) => (i, a.eval x))).run Try.prog w = .ok (.slice (some ⟨w.heap.size, 0, none⟩) n n) (w.alloc (.cells vs.flatten.toArray e)) := by
      unfold Instr.buildSlice
      simp only [Sem.run_bind, run_underlying ht, Result.andThen_ok, hsz]
      rw [if_neg (by omega), if_neg hpos]
      simp only [Sem.run_bind, hz, Result.andThen_ok, Sem.run_pure, hf]
      rfl
    simp only [ho, hr, Sem.run_bind, Result.andThen_ok, Sem.run_pure]
    exact hK _ _ h

def z32 : List Int := List.replicate 32 0
theorem z32_len : z32.length = 32 := by simp [z32]
theorem z32_byt : Byt z32 := fun x hx => by have := List.eq_of_mem_replicate hx; omega
/-- What a netmap says of a node itself. -/
structure Hd where
  clock : Int
  node : Int
  ks : List Int
  ex : Int
def Hd.L (h : Hd) : List Value := .int .i64 h.clock :: .int .i64 h.node :: (bts h.ks ++ [.int .i64 h.ex])
abbrev Hd.v (h : Hd) : Value := .agg h.L.toArray
theorem Hd.len {h : Hd} (hk : h.ks.length = 32) : h.L.length = 35 := by simp [Hd.L, bts, hk]
theorem hd_cells {w : World} {b o : Nat} {h : Hd} (hr : w.rangeAt b o h.L) (hk : h.ks.length = 32) :
    w.cell? ⟨b, o, none⟩ = some (.int .i64 h.clock) ∧ w.cell? ⟨b, o + 1, none⟩ = some (.int .i64 h.node) ∧ w.rangeAt b (o + 2) (bts h.ks) ∧ w.cell? ⟨b, o + 34, none⟩ = some (.int .i64 h.ex) := by
  have e34 : h.L[34]? = some (.int .i64 h.ex) := by simp [Hd.L, List.getElem?_append_right, hk, bts]
  refine ⟨hr 0 _ rfl, hr 1 _ rfl, range_sub hr (fun j u hu => ?_), hr 34 _ e34⟩
  have hj : j < (bts h.ks).length := by
    rcases Nat.lt_or_ge j (bts h.ks).length with h | h
    · exact h
    · rw [List.getElem?_eq_none h] at hu; cases hu
  simp only [Hd.L, Nat.add_comm 2 j, List.getElem?_cons_succ]
  rw [List.getElem?_append_left hj]
  exact hu
def headPl : Array (Nat × Nat) := #[(0, 1), (1, 1), (2, 32), (34, 1)]
theorem zero_head (w : World) : (zeroValue 79).run Try.prog w = .ok (⟨0, 0, z32, 0⟩ : Hd).v w := by kernel_rfl
theorem places_head (w : World) : ((Try.prog.fieldsOf 79).mapM (fun f => do pure (f.offset, ← sizeOf f.type)) : Sem _).run Try.prog w = .ok headPl w := by kernel_rfl
theorem under_head : Try.prog.underlying 79 = some (.struct (Try.prog.fieldsOf 79)) := by kernel_rfl
theorem fill_head (h : Hd) (hk : h.ks.length = 32) : Instr.fill (headPl[·]?) (⟨0, 0, z32, 0⟩ : Hd).L.toArray [(0, .int .i64 h.clock), (1, .int .i64 h.node), (2, .agg (bts h.ks).toArray), (3, .int .i64 h.ex)] = some h.L.toArray := by
  have hl : (bts h.ks).length = 32 := by simp [bts, hk]
  have hz : (bts z32).length = 32 := by simp [bts, z32_len]
  rw [fill_one (vs := [.int .i64 h.clock]) (off := 0) rfl rfl (by rw [Hd.len z32_len]; simp)]
  change Instr.fill _ (⟨h.clock, 0, z32, 0⟩ : Hd).L.toArray _ = _
  rw [fill_one (vs := [.int .i64 h.node]) (off := 1) rfl rfl (by rw [Hd.len z32_len]; simp)]
  change Instr.fill _ (⟨h.clock, h.node, z32, 0⟩ : Hd).L.toArray _ = _
  rw [fill_one (vs := bts h.ks) (off := 2) rfl (by rw [hl]; rfl) (by rw [Hd.len z32_len, hl]; decide), hl]
  have e0 : (⟨h.clock, h.node, z32, 0⟩ : Hd).L.take 2 ++ (bts h.ks ++ (⟨h.clock, h.node, z32, 0⟩ : Hd).L.drop (2 + 32)) = (⟨h.clock, h.node, h.ks, 0⟩ : Hd).L := by
    simp only [Hd.L, List.take_succ_cons, List.take_zero, List.drop_succ_cons, show 2 + 32 = 32 + 1 + 1 by omega]
    rw [List.drop_append, hz, List.drop_eq_nil_of_le (by omega)]
    rfl
  rw [e0]
  rw [fill_one (vs := [.int .i64 h.ex]) (off := 34) rfl rfl (by rw [Hd.len (h := ⟨h.clock, h.node, h.ks, 0⟩) hk]; simp), Instr.fill]
  have e1 : (⟨h.clock, h.node, h.ks, 0⟩ : Hd).L.take 34 = .int .i64 h.clock :: .int .i64 h.node :: bts h.ks := by
    simp only [Hd.L, List.take_succ_cons]
    rw [List.take_append_of_le_length (by omega), List.take_of_length_le (by omega)]
  have e2 : (⟨h.clock, h.node, h.ks, 0⟩ : Hd).L.drop (34 + [Value.int .i64 h.ex].length) = [] := List.drop_eq_nil_of_le (by rw [Hd.len (h := ⟨h.clock, h.node, h.ks, 0⟩) hk]; simp)
  rw [e1, e2]
  simp [Hd.L]
theorem build_head (h : Hd) (hk : h.ks.length = 32) (w : World) : (Instr.build 79 [(0, .int .i64 h.clock), (1, .int .i64 h.node), (2, .agg (bts h.ks).toArray), (3, .int .i64 h.ex)].toArray).run Try.prog w = .ok h.v w :=
  run_build under_head zero_head places_head (fill_head h hk) w
theorem size_key (w : World) : (sizeOf 31).run Try.prog w = .ok 32 w := by kernel_rfl
theorem zero_key (w : World) : (zeroValue 31).run Try.prog w = .ok (.agg (bts z32).toArray) w := by kernel_rfl
theorem infoK : (Try.prog.info? 31).map (fun i => (i.zero, i.size, i.bytes)) = some (some (.agg (bts z32).toArray), 32, 32) := by kernel_rfl
theorem own_len (A : Option Addr) (n m c d : Nat) : (Value.slice A n c).ownBlock = (Value.slice A m d).ownBlock := by cases A <;> rfl
/-- A row that is written out is owned. -/
theorem own_rows {w : World} {e : TypeId} {sz n : Nat} {cs : List Value} (hl : cs.length = n * sz) (hn : n ≤ maxLen) (B : Nat) (hB : B ≤ w.heap.size) : (w.alloc (.cells cs.toArray e)).ownsRow B e sz (.slice (some ⟨w.heap.size, 0, none⟩) n n) n cs :=
  ⟨hl, .inr ⟨w.heap.size, n, cs.toArray, rfl, hB, heap_alloc_new w _, Nat.le_refl _, hn, by simpa using hl, by simp [← hl]⟩⟩
end Go.Proofs.Ytgmndppjdnpejaa
