/- Ops and commands, compared; loads and stores of whole ones as steps of a walk. -/
import Derived.Test.YtnphnaggamfoiaaK0
namespace Go.Proofs.Ytnphnaggamfoiaa
open Go.RowKit
set_option maxRecDepth 20000
set_option linter.unusedVariables false
set_option linter.unusedSimpArgs false

def oxB (x y : Ox) : Bool := (x.kd == y.kd) && ((x.nd == y.nd) && ((x.ks == y.ks) && ((x.ex == y.ex) && ((x.tx.toList == y.tx.toList) && (x.ti == y.ti)))))
theorem fields34 : (Try.prog.fieldsOf 34).toList.map (fun f => (f.name, f.type, f.offset)) = [("Kind", 3, 0), ("Node", 3, 1), ("Key", 32, 2), ("Expiry", 3, 34), ("Text", 9, 35), ("At", 3, 36)] := by kernel_rfl
theorem eq_fields {P : Program} (d : Nat) (xs ys : Array Value) (w : World) : ∀ (l m : List Field), l.map (fun f => (f.name, f.type, f.offset)) = m.map (fun f => (f.name, f.type, f.offset)) → (Op.eqFields d xs ys l).run P w = (Op.eqFields d xs ys m).run P w := by
  intro l m h
  have : ∀ (l m : List Field), l.map (fun f => (f.name, f.type, f.offset)) = m.map (fun f => (f.name, f.type, f.offset)) → Op.eqFields d xs ys l = Op.eqFields d xs ys m := by
    intro l
    induction l with
    | nil => intro m h; cases m with
      | nil => rfl
      | cons a m => simp at h
    | cons f l ih =>
      intro m h
      cases m with
      | nil => simp at h
      | cons g m =>
        simp only [List.map_cons, List.cons.injEq, Prod.mk.injEq] at h
        obtain ⟨⟨h1, h2, h3⟩, h4⟩ := h
        simp only [Op.eqFields, h1, h2, h3, ih m h4]
  rw [this l m h]
theorem sz1 (w : World) : (sizeOf 5).run Try.prog w = .ok 1 w := by kernel_rfl
theorem agg3 (w : World) : (isAgg 3).run Try.prog w = .ok false w := by kernel_rfl
theorem agg9 (w : World) : (isAgg 9).run Try.prog w = .ok false w := by kernel_rfl
theorem agg32 (w : World) : (isAgg 32).run Try.prog w = .ok true w := by kernel_rfl
theorem size32 (w : World) : (sizeOf 32).run Try.prog w = .ok 32 w := by kernel_rfl
theorem part_int {cs : Array Value} {n : Nat} {v : Value} (h : cs[n]? = some v) (w : World) : (part 3 cs n).run Try.prog w = .ok v w := by simp [part, agg3, h]
theorem part_str {cs : Array Value} {n : Nat} {v : Value} (h : cs[n]? = some v) (w : World) : (part 9 cs n).run Try.prog w = .ok v w := by simp [part, agg9, h]
theorem part_key {cs : Array Value} {n : Nat} (w : World) : (part 32 cs n).run Try.prog w = .ok (.agg (cs.extract n (n + 32))) w := by simp [part, agg32, size32]
theorem run_equalIn_intsD {P : Program} (w : World) (d : Nat) (t e : TypeId) (n : Nat) (k : IntKind) (ht : P.underlying t = some (.array n e)) (he : P.underlying e = some (.int k)) (hsz : ∀ w, (sizeOf e).run P w = .ok 1 w)
    (xs ys : List Int) (hx : xs.length = n) (hy : ys.length = n) :
    (Op.equalIn (d + 2) t (.agg (xs.map (Value.int k)).toArray) (.agg (ys.map (Value.int k)).toArray)).run P w = .ok (xs == ys) w := by
  have all_range : ∀ (xs ys : List Int), xs.length = ys.length → ((List.range xs.length).all fun i => xs.getD i 0 == ys.getD i 0) = (xs == ys) := by
    intro xs
    induction xs with
    | nil => intro ys h; cases ys <;> simp at h ⊢
    | cons x xs ih =>
      intro ys h
      cases ys with
      | nil => simp at h
      | cons y ys =>
        have ih := ih ys (by simpa using h)
        rw [List.length_cons, List.range_succ_eq_map, List.all_cons, List.all_map]
        simp only [List.getD_cons_zero, Function.comp_def, List.getD_cons_succ, ih]
        simp [List.cons_beq_cons]
  have key : (Op.equalIn (d + 2) t (.agg (xs.map (Value.int k)).toArray) (.agg (ys.map (Value.int k)).toArray)).run P w = .ok (xs == ys) w := by
    rw [← all_range xs ys (hx.trans hy.symm), hx, List.range_eq_range', Op.equalIn]
    simp only [Sem.run_bind, run_underlying ht, Result.andThen_ok, hsz, Std.Legacy.Range.forIn_eq_forIn_range', Std.Legacy.Range.size, Nat.sub_zero, Nat.add_sub_cancel, Nat.div_one]
    have hl : ∀ i ∈ List.range' 0 n 1, i < n := fun i hi => by simpa using (List.mem_range'_1.1 hi).2
    generalize List.range' 0 n 1 = l at hl ⊢
    induction l with
    | nil => simp
    | cons i l ih =>
      have hi : i < n := hl i (by simp)
      have px : (part e (xs.map (Value.int k)).toArray (i * 1)).run P w = .ok (.int k (xs.getD i 0)) w := by
        simp [part, isAgg, run_underlying he, List.getD, List.getElem?_eq_getElem (show i < xs.length by omega)]
      have py : (part e (ys.map (Value.int k)).toArray (i * 1)).run P w = .ok (.int k (ys.getD i 0)) w := by
        simp [part, isAgg, run_underlying he, List.getD, List.getElem?_eq_getElem (show i < ys.length by omega)]
      have pe : (Op.equalIn (d + 1) e (.int k (xs.getD i 0)) (.int k (ys.getD i 0))).run P w = .ok (xs.getD i 0 == ys.getD i 0) w := run_equalIn_int w d e k k _ _ he
      simp only [List.forIn_cons, Sem.run_bind, px, py, pe, Result.andThen_ok, List.all_cons]
      cases hb : (xs.getD i 0 == ys.getD i 0)
      · simp
      · simp only [Bool.not_true, Bool.false_eq_true, if_false, Sem.run_pure, Result.andThen_ok, Bool.true_and]
        exact ih fun j hj => hl j (by simp [hj])
  exact key
theorem run_equalIn_key (w : World) (d : Nat) (xs ys : List Int) (hx : xs.length = 32) (hy : ys.length = 32) : (Op.equalIn (d + 2) 32 (.agg (xs.map (Value.int .u8)).toArray) (.agg (ys.map (Value.int .u8)).toArray)).run Try.prog w = .ok (xs == ys) w :=
  run_equalIn_intsD w d 32 5 32 .u8 Try.underlying32 Try.underlying5 sz1 xs ys hx hy
theorem Ox.at34 {o : Ox} (h : o.ks.length = 32) : o.L.toArray[34]? = some (.int .i64 o.ex) := by simp [Ox.L, List.getElem?_append_right, h, bts]
theorem Ox.at35 {o : Ox} (h : o.ks.length = 32) : o.L.toArray[35]? = some (.string o.tx) := by simp [Ox.L, List.getElem?_append_right, h, bts]
theorem Ox.at36 {o : Ox} (h : o.ks.length = 32) : o.L.toArray[36]? = some (.int .i64 o.ti) := by simp [Ox.L, List.getElem?_append_right, h, bts]
theorem Ox.key {o : Ox} (h : o.ks.length = 32) : o.L.toArray.extract 2 (2 + 32) = (o.ks.map (Value.int .u8)).toArray := by
  have hl : (bts o.ks).length = 32 := by simp [bts, h]
  have e : o.L.toArray.extract 2 (2 + 32) = (((o.L).drop 2).take 32).toArray := by
    apply Array.ext'
    simp
  rw [e]
  have : (o.L.drop 2).take 32 = bts o.ks := by
    simp only [Ox.L, List.drop_succ_cons, List.drop_zero]
    rw [List.take_append_of_le_length (by omega), List.take_of_length_le (by omega)]
  rw [this]
  rfl
theorem eq34 {x y : Ox} (hx : x.ks.length = 32) (hy : y.ks.length = 32) (w : World) : (binOp .eql 34 x.v y.v).run Try.prog w = .ok (.bool (oxB x y)) w := by
  have hfo : Try.prog.underlying 34 = some (.struct (Try.prog.fieldsOf 34)) := by kernel_rfl
  have hst : Try.prog.stoodInHeld 34 = false := by kernel_rfl
  rw [run_eql_struct, run_equalIn_agg w 9999 34 _ _ hfo hst]
  rw [eq_fields 9999 _ _ w _ [⟨"Kind", 3, 0, false, "", "", 0⟩, ⟨"Node", 3, 1, false, "", "", 0⟩, ⟨"Key", 32, 2, false, "", "", 0⟩, ⟨"Expiry", 3, 34, false, "", "", 0⟩, ⟨"Text", 9, 35, false, "", "", 0⟩, ⟨"At", 3, 36, false, "", "", 0⟩] fields34]
  have i3 := Try.underlying3
  have i9 := Try.underlying9
  have e3 : ∀ (a b : Int) (w : World), (Op.equalIn 9999 3 (.int .i64 a) (.int .i64 b)).run Try.prog w = .ok (a == b) w := fun a b w => run_equalIn_int w 9998 3 .i64 _ a b i3
  have e9 : ∀ (a b : ByteArray) (w : World), (Op.equalIn 9999 9 (.string a) (.string b)).run Try.prog w = .ok (a.toList == b.toList) w := fun a b w => run_equalIn_string w 9998 9 a b i9
  have hkey : (Op.equalIn 9999 32 (.agg (x.ks.map (Value.int .u8)).toArray) (.agg (y.ks.map (Value.int .u8)).toArray)).run Try.prog w = .ok (x.ks == y.ks) w := run_equalIn_key w 9997 x.ks y.ks hx hy
  have x0 : x.L.toArray[0]? = some (.int .i64 x.kd) := rfl
  have y0 : y.L.toArray[0]? = some (.int .i64 y.kd) := rfl
  have x1 : x.L.toArray[1]? = some (.int .i64 x.nd) := rfl
  have y1 : y.L.toArray[1]? = some (.int .i64 y.nd) := rfl
  simp only [Op.eqFields, Sem.run_bind, Sem.run_ite, part_int x0, part_int y0, part_int x1, part_int y1, part_key, Ox.key hx, Ox.key hy, part_int (Ox.at34 hx), part_int (Ox.at34 hy), part_str (Ox.at35 hx), part_str (Ox.at35 hy), part_int (Ox.at36 hx), part_int (Ox.at36 hy), Result.andThen_ok, e3, e9, hkey, Sem.run_pure]
  unfold oxB
  cases h1 : (x.kd == y.kd) <;> cases h2 : (x.nd == y.nd) <;> cases h3 : (x.ks == y.ks) <;> cases h4 : (x.ex == y.ex) <;> cases h5 : (x.tx.toList == y.tx.toList) <;> cases h6 : (x.ti == y.ti) <;> simp
end Go.Proofs.Ytnphnaggamfoiaa
