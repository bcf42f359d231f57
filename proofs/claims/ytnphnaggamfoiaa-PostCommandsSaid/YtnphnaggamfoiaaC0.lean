/- Messages as values; entries in a row; what a message must be (plain words, no walk). -/
import Derived.Test.YtnphnaggamfoiaaBase
import Derived.ChangeKeysEq
namespace Go.Proofs.Ytnphnaggamfoiaa
open Go.RowKit
set_option maxRecDepth 20000
set_option linter.unusedVariables false
set_option linter.unusedSimpArgs false

/-- A message, as it lies in memory: its entries and its snapshot's data are slices. -/
structure Po where
  kd : Int
  fr : Int
  to : Int
  te : Int
  ix : Int
  lt : Int
  co : Int
  ok : Bool
  hi : Int
  EA : Option Addr
  en : Nat
  ec : Nat
  si : Int
  st : Int
  sc : Int
  SA : Option Addr
  sn : Nat
  sk : Nat
abbrev Po.cs (p : Po) : Array Value := #[.int .i64 p.kd, .int .i64 p.fr, .int .i64 p.to, .int .i64 p.te, .int .i64 p.ix, .int .i64 p.lt, .int .i64 p.co, .bool p.ok, .int .i64 p.hi, .slice p.EA p.en p.ec, .int .i64 p.si, .int .i64 p.st, .int .i64 p.sc, .slice p.SA p.sn p.sk]
abbrev Po.v (p : Po) : Value := .agg p.cs
def wiB (n a b : Int) : Bool := decide (a ≤ n) && decide (n ≤ b)
def nuB (n : Int) : Bool := wiB n 0 9007199254740991
def srvB (p : Po) : Bool := wiB p.fr 1 5 && wiB p.to 1 5 && !(p.fr == p.to)
def numB (p : Po) : Bool := nuB p.te && nuB p.ix && nuB p.co && nuB p.hi && wiB p.lt 0 p.te
/-- What a message of a kind has, of one. -/
def Po.bare (p : Po) : Po :=
  let z : Po := ⟨p.kd, p.fr, p.to, p.te, 0, 0, 0, false, 0, none, 0, 0, 0, 0, 0, none, 0, 0⟩
  if p.kd = 1 then { z with ix := p.ix, lt := p.lt }
  else if p.kd = 2 then { z with ok := p.ok }
  else if p.kd = 3 then { z with ix := p.ix, lt := p.lt, co := p.co, hi := p.hi, EA := p.EA, en := p.en, ec := p.ec }
  else if p.kd = 4 then { z with ok := p.ok, ix := p.ix, hi := p.hi }
  else if p.kd = 5 then { z with hi := p.hi, si := p.si, st := p.st, sc := p.sc, SA := p.SA, sn := p.sn, sk := p.sk }
  else { z with ix := p.ix, hi := p.hi }
abbrev Po.nums (p : Po) : List Int := [p.kd, p.fr, p.to, p.te, p.ix, p.lt, p.co, p.hi, p.si, p.st, p.sc]
def alB (p q : Po) : Bool := (p.nums == q.nums) && (p.ok == q.ok) && ((p.en : Int) == (q.en : Int)) && ((p.sn : Int) == (q.sn : Int))

/-- An entry, as it lies in a row. -/
structure En where
  te : Int
  ix : Int
  ki : Int
  A : Option Addr
  c : Nat
  bs : List Int
abbrev En.cells (x : En) : List Value := [.int .i64 x.te, .int .i64 x.ix, .int .i64 x.ki, .slice x.A x.bs.length x.c]
def rowE (l : List En) : List Value := l.flatMap En.cells
def En.ok (w : World) (S : Nat → Prop) (x : En) : Prop := Rd w S 1 (.slice x.A x.bs.length x.c) x.bs.length (bts x.bs) ∧ x.bs.length ≤ 140737488351232
/-- What an entry is, apart from where it lies. -/
structure Ed where
  te : Int
  ix : Int
  ki : Int
  bs : List Int
def En.ed (x : En) : Ed := ⟨x.te, x.ix, x.ki, x.bs⟩
theorem rowE_length (l : List En) : (rowE l).length = l.length * 4 := by
  induction l with
  | nil => rfl
  | cons x l ih => simp [rowE] at ih ⊢; omega
theorem rowE_append (l m : List En) : rowE (l ++ m) = rowE l ++ rowE m := by simp [rowE]
theorem rowE_one (l : List En) : ∀ u ∈ rowE l, u.oneCell' = true := by
  intro u hu
  simp only [rowE, List.mem_flatMap] at hu
  obtain ⟨x, _, hx⟩ := hu
  simp only [List.mem_cons, List.not_mem_nil, or_false] at hx
  rcases hx with rfl | rfl | rfl | rfl <;> rfl
theorem rowE_at : ∀ (l : List En) (i : Nat) (hi : i < l.length) (j : Nat) (hj : j < 4), (rowE l)[i * 4 + j]? = (l[i]).cells[j]?
  | x :: l, 0, _, j, hj => by
    simp only [rowE, List.flatMap_cons, Nat.zero_mul, Nat.zero_add, List.getElem_cons_zero]
    rw [List.getElem?_append_left (by simpa using hj)]
  | x :: l, i + 1, hi, j, hj => by
    have h := rowE_at l i (by simpa using hi) j hj
    simp only [rowE, List.flatMap_cons, List.getElem_cons_succ] at h ⊢
    rw [List.getElem?_append_right (by simp; omega)]
    rw [← h]
    congr 1
    simp
    omega
/-- One entry of a list: its number is base, its term is no less than tm and no greater than te. -/
def entB (te base tm : Int) (e : Ed) : Bool := (e.ix == base) && nuB e.ix && wiB e.te tm te && wiB e.ki 0 2 && decide ((e.bs.length : Int) ≤ 1200)
def entsB (te : Int) : Int → Int → List Ed → Bool
  | _, _, [] => true
  | base, tm, e :: l => entB te base tm e && entsB te (base + 1) e.te l
def snpB (p : Po) : Bool := wiB p.si 1 9007199254740991 && wiB p.st 0 p.te && decide (p.sc % 2 = 0) && wiB p.sc 1 63 && decide ((p.sn : Int) ≤ 8192)
/-- May the message be? l: its entries. -/
def chkB (p : Po) (l : List Ed) : Bool := wiB p.kd 1 6 && srvB p && numB p && alB p p.bare && (entsB p.te (p.ix + 1) p.lt l && decide ((l.length : Int) ≤ 8)) && (!(p.kd == 5) || snpB p)
def chkE (p : Po) (l : List Ed) : Int := if chkB p l then 0 else 2

/-- Arrays of whole numbers, compared. -/
theorem run_equalIn_ints {P : Program} (w : World) (t e : TypeId) (n : Nat) (k : IntKind) (ht : P.underlying t = some (.array n e)) (he : P.underlying e = some (.int k)) (hsz : ∀ w, (sizeOf e).run P w = .ok 1 w)
    (xs ys : List Int) (hx : xs.length = n) (hy : ys.length = n) :
    (Op.equalIn 10000 t (.agg (xs.map (Value.int k)).toArray) (.agg (ys.map (Value.int k)).toArray)).run P w = .ok (xs == ys) w := by
  have all_range : ∀ (xs ys : List Int), xs.length = ys.length → ((List.range xs.length).all fun i => xs.getD i 0 == ys.getD i 0) = (xs == ys) := by
    intro xs
    induction xs with
    | nil => intro ys h; cases ys <;> simp at h ⊢
    | cons x xs ih =>
      intro ys h
      cases ys with
      | nil => simp at h
      | cons y ys =>
        have ih := ih ys (by simpa using h)
        rw [List.length_cons, List.range_succ_eq_map, List.all_cons, List.all_map]
        simp only [List.getD_cons_zero, Function.comp_def, List.getD_cons_succ, ih]
        simp [List.cons_beq_cons]
  have key : (Op.equalIn (9998 + 2) t (.agg (xs.map (Value.int k)).toArray) (.agg (ys.map (Value.int k)).toArray)).run P w = .ok (xs == ys) w := by
    rw [← all_range xs ys (hx.trans hy.symm), hx, List.range_eq_range', Op.equalIn]
    simp only [Sem.run_bind, run_underlying ht, Result.andThen_ok, hsz, Std.Legacy.Range.forIn_eq_forIn_range', Std.Legacy.Range.size, Nat.sub_zero, Nat.add_sub_cancel, Nat.div_one]
    have hl : ∀ i ∈ List.range' 0 n 1, i < n := fun i hi => by simpa using (List.mem_range'_1.1 hi).2
    generalize List.range' 0 n 1 = l at hl ⊢
    induction l with
    | nil => simp
    | cons i l ih =>
      have hi : i < n := hl i (by simp)
      have px : (part e (xs.map (Value.int k)).toArray (i * 1)).run P w = .ok (.int k (xs.getD i 0)) w := by
        simp [part, isAgg, run_underlying he, List.getD, List.getElem?_eq_getElem (show i < xs.length by omega)]
      have py : (part e (ys.map (Value.int k)).toArray (i * 1)).run P w = .ok (.int k (ys.getD i 0)) w := by
        simp [part, isAgg, run_underlying he, List.getD, List.getElem?_eq_getElem (show i < ys.length by omega)]
      have pe : (Op.equalIn (9998 + 1) e (.int k (xs.getD i 0)) (.int k (ys.getD i 0))).run P w = .ok (xs.getD i 0 == ys.getD i 0) w := run_equalIn_int w 9998 e k k _ _ he
      simp only [List.forIn_cons, Sem.run_bind, px, py, pe, Result.andThen_ok, List.all_cons]
      cases hb : (xs.getD i 0 == ys.getD i 0)
      · simp
      · simp only [Bool.not_true, Bool.false_eq_true, if_false, Sem.run_pure, Result.andThen_ok, Bool.true_and]
        exact ih fun j hj => hl j (by simp [hj])
  exact key
theorem run_eql_ints {P : Program} (w : World) (t e : TypeId) (n : Nat) (k : IntKind) (ht : P.underlying t = some (.array n e)) (he : P.underlying e = some (.int k)) (hsz : ∀ w, (sizeOf e).run P w = .ok 1 w)
    (xs ys : List Int) (hx : xs.length = n) (hy : ys.length = n) :
    (binOp .eql t (.agg (xs.map (Value.int k)).toArray) (.agg (ys.map (Value.int k)).toArray)).run P w = .ok (.bool (xs == ys)) w := by
  rw [run_eql_struct, run_equalIn_ints w t e n k ht he hsz xs ys hx hy]
  rfl
end Go.Proofs.Ytnphnaggamfoiaa
