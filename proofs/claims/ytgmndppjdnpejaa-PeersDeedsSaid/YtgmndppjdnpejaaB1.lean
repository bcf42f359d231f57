/- Whole structs and arrays as steps of a walk; keys; netmaps and peers as values. -/
import Derived.Test.YtgmndppjdnpejaaArgs
import Derived.Deep.MidRow
import Derived.KernelRfl
namespace Go.Proofs.Ytgmndppjdnpejaa
open Go.RowKit
set_option maxRecDepth 20000
set_option linter.unusedVariables false
set_option linter.unusedSimpArgs false

/-- A type whose values have n cells. -/
structure BigT (t : TypeId) (n : Nat) : Prop where
  sz : (Try.prog.info? t).map (·.size) = some n
  row : ∃ d, Try.prog.underlying t = some d ∧ d.isRow = true
theorem big_key : BigT 31 32 := ⟨by kernel_rfl, _, Try.underlying31, rfl⟩
theorem big_peer : BigT 43 36 := ⟨by kernel_rfl, _, Try.underlying43, rfl⟩
theorem big_map : BigT 34 37 := ⟨by kernel_rfl, _, Try.underlying34, rfl⟩
theorem step_load {t : TypeId} {n : Nat} (B : BigT t n) {ops : Array Oper} {rest : List Oper} {op : Oper} {a : Act} {w : World} {Q : Exit → Act → World → Prop} (hw : Region.wanted op (yielded ops a.tmps) = true) (x : Operand) (ho : op.op = .load t x)
    (b off : Nat) (hx : a.eval x = .pointer (some ⟨b, off, none⟩)) (L : List Value) (hL : L.length = n) (hr : w.rangeAt b off L)
    (h : wpList Try.prog ops Q rest (a.put op.dst (.agg L.toArray)) w) : wpList Try.prog ops Q (op :: rest) a w := by
  obtain ⟨d, hu, hd⟩ := B.row
  exact BigFrame.wpList_want hw fun K hK => wp_load_mid t x ho b off hx L d hr hu hd (by rw [B.sz, hL]) (hK _ _ h)
theorem all_one {l : List Value} (h : ∀ v ∈ l, v.oneCell' = true) : l.toArray.all (·.oneCell') = true := all_oneCell_toArray h
theorem step_store {t : TypeId} {n : Nat} (B : BigT t n) {ops : Array Oper} {rest : List Oper} {op : Oper} {a : Act} {w : World} {Q : Exit → Act → World → Prop} (hgd : op.guard = none) (x y : Operand) (ho : op.op = .store t x y)
    (g : Nat) (hx : a.eval x = .pointer (some ⟨g, 0, none⟩)) (L : List Value) (hL : L.length = n) (h1 : ∀ v ∈ L, v.oneCell' = true) (hy : a.eval y = .agg L.toArray) (e : TypeId) (old : Array Value) (hb : Blk w g e old) (hs : old.size = n)
    (h : ∀ w', Blk w' g e L.toArray → Mod (fun j => j = g) w w' → w'.heap.size = w.heap.size → wpList Try.prog ops Q rest (a.put op.dst undef) w') : wpList Try.prog ops Q (op :: rest) a w :=
  wpList_store_row hgd t x y ho g L.toArray hx hy e old hb (by rw [B.sz]; simp [hL]) (by simp [hs, hL]) (all_one h1)
    (h _ (hb.setRow _) ((Mod.refl (fun j => j = g) w).setRow (.inl rfl) _) (by simp [World.setRow]))
theorem blk_range {w : World} {g : Nat} {t : TypeId} {l : List Value} (h : Blk w g t l.toArray) : w.rangeAt g 0 l := fun j u hu => by rw [Nat.zero_add, h.cell j]; simpa using hu
theorem range_sub {w : World} {g o i : Nat} {cs ds : List Value} (h : w.rangeAt g o cs) (hd : ∀ j u, ds[j]? = some u → cs[i + j]? = some u) : w.rangeAt g (o + i) ds := fun j u hu => by
  have := h (i + j) u (hd j u hu)
  rwa [show o + (i + j) = o + i + j by omega] at this
theorem range_other {w : World} {g o : Nat} {cs : List Value} (h : w.rangeAt g o cs) {a : Addr} (ha : a.block ≠ g) (v : Value) : (w.setCell a v).rangeAt g o cs := fun j u hu => by
  rw [World.cell?_setCell_other _ _ _ _ (by intro h; apply ha; rw [h])]
  exact h j u hu

/-- A span. -/
structure Sp where
  lo : Int
  hi : Int
def Sp.L (s : Sp) : List Value := [.int .i64 s.lo, .int .i64 s.hi]
def rowS (l : List Sp) : List Value := l.flatMap Sp.L
/-- A peer: its spans lie elsewhere. -/
structure Pe where
  nd : Int
  ks : List Int
  ex : Int
  IA : Option Addr
  ic : Nat
  ins : List Sp
  OA : Option Addr
  oc : Nat
  outs : List Sp
def Pe.L (p : Pe) : List Value := .int .i64 p.nd :: (bts p.ks ++ [.int .i64 p.ex, .slice p.IA p.ins.length p.ic, .slice p.OA p.outs.length p.oc])
abbrev Pe.v (p : Pe) : Value := .agg p.L.toArray
def rowP (l : List Pe) : List Value := l.flatMap Pe.L
theorem Pe.len {p : Pe} (h : p.ks.length = 32) : p.L.length = 36 := by simp [Pe.L, bts, h]
theorem Pe.one (p : Pe) : ∀ v ∈ p.L, v.oneCell' = true := by
  intro v hv
  simp only [Pe.L, List.mem_cons, List.mem_append, bts, List.mem_map, List.not_mem_nil, or_false] at hv
  rcases hv with rfl | ⟨x, _, rfl⟩ | rfl | rfl | rfl <;> rfl
/-- A netmap: its peers lie elsewhere. -/
structure Nm where
  ver : Int
  clock : Int
  node : Int
  ks : List Int
  ex : Int
  PA : Option Addr
  pc : Nat
  ps : List Pe
def Nm.L (m : Nm) : List Value := .int .i64 m.ver :: .int .i64 m.clock :: .int .i64 m.node :: (bts m.ks ++ [.int .i64 m.ex, .slice m.PA m.ps.length m.pc])
abbrev Nm.v (m : Nm) : Value := .agg m.L.toArray
theorem Nm.len {m : Nm} (h : m.ks.length = 32) : m.L.length = 37 := by simp [Nm.L, bts, h]
theorem Nm.one (m : Nm) : ∀ v ∈ m.L, v.oneCell' = true := by
  intro v hv
  simp only [Nm.L, List.mem_cons, List.mem_append, bts, List.mem_map, List.not_mem_nil, or_false] at hv
  rcases hv with rfl | rfl | rfl | ⟨x, _, rfl⟩ | rfl | rfl <;> rfl
/-- The cells of a peer that lies from offset o on. -/
theorem pe_cells {w : World} {b o : Nat} {p : Pe} (h : w.rangeAt b o p.L) (hk : p.ks.length = 32) :
    w.cell? ⟨b, o, none⟩ = some (.int .i64 p.nd) ∧ w.rangeAt b (o + 1) (bts p.ks) ∧ w.cell? ⟨b, o + 33, none⟩ = some (.int .i64 p.ex) ∧ w.cell? ⟨b, o + 34, none⟩ = some (.slice p.IA p.ins.length p.ic) ∧ w.cell? ⟨b, o + 35, none⟩ = some (.slice p.OA p.outs.length p.oc) := by
  have e33 : p.L[33]? = some (.int .i64 p.ex) := by simp [Pe.L, List.getElem?_append_right, hk, bts]
  have e34 : p.L[34]? = some (.slice p.IA p.ins.length p.ic) := by simp [Pe.L, List.getElem?_append_right, hk, bts]
  have e35 : p.L[35]? = some (.slice p.OA p.outs.length p.oc) := by simp [Pe.L, List.getElem?_append_right, hk, bts]
  refine ⟨h 0 _ rfl, range_sub h (fun j u hu => ?_), h 33 _ e33, h 34 _ e34, h 35 _ e35⟩
  have hj : j < (bts p.ks).length := by
    rcases Nat.lt_or_ge j (bts p.ks).length with h | h
    · exact h
    · rw [List.getElem?_eq_none h] at hu; cases hu
  simp only [Pe.L, Nat.add_comm 1 j, List.getElem?_cons_succ]
  rw [List.getElem?_append_left hj]
  exact hu
theorem nm_cells {w : World} {b o : Nat} {m : Nm} (h : w.rangeAt b o m.L) (hk : m.ks.length = 32) :
    w.cell? ⟨b, o, none⟩ = some (.int .i64 m.ver) ∧ w.cell? ⟨b, o + 1, none⟩ = some (.int .i64 m.clock) ∧ w.cell? ⟨b, o + 2, none⟩ = some (.int .i64 m.node) ∧ w.rangeAt b (o + 3) (bts m.ks) ∧ w.cell? ⟨b, o + 35, none⟩ = some (.int .i64 m.ex) ∧ w.cell? ⟨b, o + 36, none⟩ = some (.slice m.PA m.ps.length m.pc) := by
  have e35 : m.L[35]? = some (.int .i64 m.ex) := by simp [Nm.L, List.getElem?_append_right, hk, bts]
  have e36 : m.L[36]? = some (.slice m.PA m.ps.length m.pc) := by simp [Nm.L, List.getElem?_append_right, hk, bts]
  refine ⟨h 0 _ rfl, h 1 _ rfl, h 2 _ rfl, range_sub h (fun j u hu => ?_), h 35 _ e35, h 36 _ e36⟩
  have hj : j < (bts m.ks).length := by
    rcases Nat.lt_or_ge j (bts m.ks).length with h | h
    · exact h
    · rw [List.getElem?_eq_none h] at hu; cases hu
  simp only [Nm.L, Nat.add_comm 3 j, List.getElem?_cons_succ]
  rw [List.getElem?_append_left hj]
  exact hu
/-- A peer's spans are in memory. -/
structure PeAt (w : World) (S : Nat → Prop) (p : Pe) : Prop where
  k32 : p.ks.length = 32
  kb : Byt p.ks
  ri : Rd w S 2 (.slice p.IA p.ins.length p.ic) p.ins.length (rowS p.ins)
  ro : Rd w S 2 (.slice p.OA p.outs.length p.oc) p.outs.length (rowS p.outs)
theorem PeAt.kept {w w' : World} {S T : Nat → Prop} {p : Pe} (h : PeAt w S p) (hm : Mod T w w') (hd : ∀ i, S i → ¬ T i) : PeAt w' S p := ⟨h.k32, h.kb, h.ri.kept hm hd, h.ro.kept hm hd⟩
theorem PeAt.below {w w' : World} {S : Nat → Prop} {p : Pe} {B : Nat} (h : PeAt w S p) (hb : Below B w w') (hd : ∀ i, S i → i < B) : PeAt w' S p := ⟨h.k32, h.kb, h.ri.below hb hd, h.ro.below hb hd⟩
/-- A netmap's peers are in memory. -/
structure NmAt (w : World) (S : Nat → Prop) (m : Nm) : Prop where
  k32 : m.ks.length = 32
  kb : Byt m.ks
  rp : Rd w S 36 (.slice m.PA m.ps.length m.pc) m.ps.length (rowP m.ps)
  each : ∀ p ∈ m.ps, PeAt w S p
theorem NmAt.kept {w w' : World} {S T : Nat → Prop} {m : Nm} (h : NmAt w S m) (hm : Mod T w w') (hd : ∀ i, S i → ¬ T i) : NmAt w' S m := ⟨h.k32, h.kb, h.rp.kept hm hd, fun p hp => (h.each p hp).kept hm hd⟩
theorem NmAt.below {w w' : World} {S : Nat → Prop} {m : Nm} {B : Nat} (h : NmAt w S m) (hb : Below B w w') (hd : ∀ i, S i → i < B) : NmAt w' S m := ⟨h.k32, h.kb, h.rp.below hb hd, fun p hp => (h.each p hp).below hb hd⟩
end Go.Proofs.Ytgmndppjdnpejaa
