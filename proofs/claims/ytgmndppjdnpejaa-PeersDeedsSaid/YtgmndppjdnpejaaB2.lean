/- Maps whose elements are any values: what they hold, as a function. -/
import Derived.Maps.OwnSet
import Derived.DeepKeys4
import Derived.Test.YtgmndppjdnpejaaArgs
namespace Go.Proofs.Ytgmndppjdnpejaa
open Go.RowKit
open Go.Maps (Keyed)
set_option maxRecDepth 20000
set_option linter.unusedVariables false
set_option linter.unusedSimpArgs false

def heldR (v : Value) : Option (DataW Value × List MemPlace) := some (.held v, [])
/-- Block b is a map that holds, at a key, what f says. -/
def MapIs (w : World) (k : TypeId) (b n : Nat) (f : Value → Option Value) : Prop :=
  ∃ D : DataW Value, w.ownsMap Try.prog k heldR b n D ∧ ∀ key kl, keyOf Try.prog k key = some kl → Maps.has D kl = (f key).isSome ∧ ∀ z, D.atKey kl (.held z) = .held ((f key).getD z)
theorem MapIs.lt {w : World} {k : TypeId} {b n : Nat} {f : Value → Option Value} (h : MapIs w k b n f) : b < w.heap.size := by
  obtain ⟨D, h, _⟩ := h; exact h.lt
theorem MapIs.made (w : World) (k : TypeId) : MapIs (w.alloc (.map #[] 0)) k w.heap.size 0 (fun _ => none) :=
  ⟨.map [], World.ownsMap_made _ _ _ _, fun _ _ _ => ⟨rfl, fun _ => rfl⟩⟩
theorem MapIs.kept {w w' : World} {S : Nat → Prop} {k : TypeId} {b n : Nat} {f : Value → Option Value} (h : MapIs w k b n f) (hm : Mod S w w') (hs : ¬ S b) : MapIs w' k b n f := by
  obtain ⟨D, h, hf⟩ := h
  have hlt := h.lt
  obtain ⟨es, clock, hb, r⟩ := h
  exact ⟨D, ⟨es, clock, (hm.block b hlt hs).trans hb, r⟩, hf⟩
theorem MapIs.later {w w' : World} {k : TypeId} {b n : Nat} {f : Value → Option Value} (h : MapIs w k b n f) (hb : Below w.heap.size w w') : MapIs w' k b n f :=
  h.kept (Mod.of_below (S := fun _ => False) hb) (fun h => h)
theorem MapIs.mono {w : World} {k : TypeId} {b n n' : Nat} {f : Value → Option Value} (h : MapIs w k b n f) (hn : n ≤ n') : MapIs w k b n' f := by
  obtain ⟨D, h, hf⟩ := h; exact ⟨D, h.mono hn, hf⟩
/-- 'm[k]', 'v, ok := m[k]'. -/
theorem MapIs.look {w : World} {k t e : TypeId} {b n : Nat} {f : Value → Option Value} (h : MapIs w k b n f) (K : Keyed Try.prog k) (ht : Try.prog.underlying t = some (.map k e)) {z : Value} (hz : (zeroValue e).run Try.prog w = .ok z w) {key : Value} {kl : Lit} (hkey : keyOf Try.prog k key = some kl) :
    (Instr.lookup t (.map (some b)) key false).run Try.prog w = .ok ((f key).getD z) w ∧ (Instr.lookup t (.map (some b)) key true).run Try.prog w = .ok (.tuple #[(f key).getD z, .bool (f key).isSome]) w := by
  obtain ⟨D, h, hf⟩ := h
  obtain ⟨h1, h2⟩ := hf key kl hkey
  constructor
  · obtain ⟨v, ps, hr, hv⟩ := h.lookup K ht hz (zd := .held z) (zp := []) rfl hkey
    rw [h2 z] at hv
    unfold heldR at hv
    injection hv with hv
    injection hv with hv _
    injection hv with hv
    rw [hr, hv]
  · obtain ⟨v, ps, hr, hv⟩ := h.look_ok K ht hz (zd := .held z) (zp := []) rfl hkey
    rw [h2 z] at hv
    unfold heldR at hv
    injection hv with hv
    injection hv with hv _
    injection hv with hv
    rw [hr, hv, h1]
open Classical in
noncomputable def updF (f : Value → Option Value) (key val : Value) : Value → Option Value := fun x => if x = key then some val else f x
theorem updF_same (f : Value → Option Value) (key val : Value) : updF f key val key = some val := by unfold updF; exact if_pos rfl
theorem updF_other {f : Value → Option Value} {key val x : Value} (h : x ≠ key) : updF f key val x = f x := by unfold updF; exact if_neg h
/-- 'm[k] = v'. -/
theorem MapIs.store {w : World} {k t e : TypeId} {b n : Nat} {f : Value → Option Value} (h : MapIs w k b n f) (K : Keyed Try.prog k) (ht : Try.prog.underlying t = some (.map k e)) (hn : n < maxLen) {key val : Value} {kl : Lit} (hkey : keyOf Try.prog k key = some kl) :
    ∃ w', (Instr.mapUpdate t (.map (some b)) key val).run Try.prog w = .ok () w' ∧ MapIs w' k b (n + 1) (updF f key val) ∧ Mod (fun i => i = b) w w' := by
  obtain ⟨D, h, hf⟩ := h
  have hM := h.isMap
  obtain ⟨w', hr, h', hg⟩ := h.update K ht hn hkey (d := .held val) (ps := []) rfl
  refine ⟨w', hr, ⟨_, h', fun x xl hx => ?_⟩, (Mod.refl (fun i => i = b) w).grown hg (fun j hj => by injection hj with hj; exact .inl hj.symm)⟩
  by_cases e : x = key
  · subst e
    rw [hkey] at hx
    injection hx with hx
    subst hx
    rw [updF_same]
    exact ⟨Maps.has_put_same hM (K.key hkey) _, fun z => Maps.atKey_put_same hM (K.key hkey) _ _⟩
  · have hne : xl ≠ kl := fun h => e (K.inj hx (h ▸ hkey))
    rw [updF_other e]
    rw [Maps.has_put_other hne]
    refine ⟨(hf x xl hx).1, fun z => ?_⟩
    rw [Maps.atKey_put_other hne]
    exact (hf x xl hx).2 z

theorem step_look {k t e : TypeId} {b n : Nat} {f : Value → Option Value} {w : World} {ops : Array Oper} {rest : List Oper} {op : Oper} {a : Act} {Q : Exit → Act → World → Prop} (hw : Region.wanted op (yielded ops a.tmps) = true) (m x : Operand) (c : Bool) (hop : op.op = Op.lookup t m x c)
    (h : MapIs w k b n f) (K : Keyed Try.prog k) (ht : Try.prog.underlying t = some (.map k e)) (z : Value) (hz : (zeroValue e).run Try.prog w = .ok z w) (hm : a.eval m = .map (some b)) (key : Value) (hx : a.eval x = key) {kl : Lit} (hkey : keyOf Try.prog k key = some kl)
    (hK : wpList Try.prog ops Q rest (a.put op.dst (if c then .tuple #[(f key).getD z, .bool (f key).isSome] else (f key).getD z)) w) : wpList Try.prog ops Q (op :: rest) a w :=
  BigFrame.wpList_want hw fun K' hK' => by
    obtain ⟨h1, h2⟩ := h.look K ht hz hkey
    unfold Oper.wp
    cases c
    · simp [execOp, hop, hm, hx, h1, Result.andThen]
      exact hK' _ _ hK
    · simp [execOp, hop, hm, hx, h2, Result.andThen]
      exact hK' _ _ hK
theorem step_put {k t e : TypeId} {b n : Nat} {f : Value → Option Value} {w : World} {ops : Array Oper} {rest : List Oper} {op : Oper} {a : Act} {Q : Exit → Act → World → Prop} (hg : op.guard = none) (m x v : Operand) (hop : op.op = Op.mapUpdate t m x v)
    (h : MapIs w k b n f) (K : Keyed Try.prog k) (ht : Try.prog.underlying t = some (.map k e)) (hn : n < maxLen) (hm : a.eval m = .map (some b)) (key val : Value) (hx : a.eval x = key) (hv : a.eval v = val) {kl : Lit} (hkey : keyOf Try.prog k key = some kl)
    (hK : ∀ w', MapIs w' k b (n + 1) (updF f key val) → Mod (fun i => i = b) w w' → wpList Try.prog ops Q rest (a.put op.dst undef) w') : wpList Try.prog ops Q (op :: rest) a w :=
  wpList_plain hg fun K' hK' => by
    obtain ⟨w', hr, h', hm'⟩ := h.store K ht hn (val := val) hkey
    unfold Oper.wp
    simp [execOp, hop, hm, hx, hv, hr, Result.andThen]
    exact hK' _ _ (hK w' h' hm')

theorem laid_out : laidOutB Try.prog = true := by kernel_rfl
theorem keyed_key : Keyed Try.prog 31 := Keyed.of_law (deep_law_laid laid_out (m := 2) (by omega) (of_decide_eq_true (by kernel_rfl)) (by kernel_rfl) (by kernel_rfl))
theorem keyed_int : Keyed Try.prog 3 := Maps.int_keyed Try.underlying3
theorem key_lits (d : Nat) {ks : List Int} (hb : Byt ks) (hl : ks.length = 32) : ∃ ls, Try.prog.keyLits (d + 2) 31 (bts ks) = some ls := by
  have hc : Try.prog.cellsOf 31 = 32 := by kernel_rfl
  have hc5 : Try.prog.cellsOf 5 = 1 := by kernel_rfl
  unfold Program.keyLits
  rw [Try.underlying31]
  simp only [hc, hc5]
  rw [if_pos (by simp [bts, hl])]
  have : ∀ l : List Nat, (∀ i ∈ l, i < 32) → ∃ r, l.mapM (fun i => Try.prog.keyLits (d + 1) 5 (((bts ks).drop (i * 1)).take 1)) = some r := by
    intro l
    induction l with
    | nil => intro _; exact ⟨[], rfl⟩
    | cons i l ih =>
      intro h
      have hi := h i (by simp)
      obtain ⟨r, hr⟩ := ih (fun j hj => h j (by simp [hj]))
      have e : ((bts ks).drop (i * 1)).take 1 = [.int .u8 (ks[i]'(by omega))] := by
        rw [Nat.mul_one, List.drop_eq_getElem_cons (by rw [bts_length]; omega)]
        simp [bts]
      have hx := hb _ (List.getElem_mem (show i < ks.length by omega))
      have e2 : Try.prog.keyLits (d + 1) 5 [.int .u8 (ks[i]'(by omega))] = some [.int .u8 (ks[i]'(by omega))] := by
        unfold Program.keyLits
        rw [Try.underlying5]
        have hw : (Lit.int .u8 (ks[i]'(by omega))).wf = true := by
          simp only [Lit.wf, Bool.and_eq_true, decide_eq_true_eq]
          show (0 : Int) ≤ _ ∧ _ ≤ (255 : Int)
          omega
        simp [hw]
      rw [List.mapM_cons, e, e2, hr]
      exact ⟨_, rfl⟩
  obtain ⟨r, hr⟩ := this (List.range 32) (fun i hi => by simpa using hi)
  exact ⟨_, by rw [hr]; rfl⟩
theorem key_of {ks : List Int} (hb : Byt ks) (hl : ks.length = 32) : ∃ kl, keyOf Try.prog 31 (.agg (bts ks).toArray) = some kl := by
  have ht : Try.prog.keyType 31 = true := by kernel_rfl
  have hc : Try.prog.cellsOf 31 = 32 := by kernel_rfl
  have hs : ∃ d, Try.prog.types.size + 1 = d + 2 := by
    have h0 : 0 < Try.prog.types.size := of_decide_eq_true (by kernel_rfl)
    exact ⟨Try.prog.types.size - 1, by omega⟩
  obtain ⟨d, hd⟩ := hs
  obtain ⟨ls, h⟩ := key_lits d hb hl
  unfold keyOf
  rw [Try.underlying31]
  have hf : (Value.agg (bts ks).toArray).formed Try.prog 31 = true := by
    unfold Value.formed
    simp only [Try.underlying31, hc]
    simp [bts, hl]
  simp only [ht, hf, hd, Value.cells]
  rw [h]
  exact ⟨_, rfl⟩
end Go.Proofs.Ytgmndppjdnpejaa
