/- The lane's methods. -/
import Derived.Test.YtekedgokmmkplaaA4
namespace Go.Proofs.Ytekedgokmmkplaa
open Go.RowKit
set_option linter.unusedVariables false
set_option linter.unusedSimpArgs false

/-- A lane at block p, with these datagrams and this side; S: all its blocks. -/
def LaneAt (w : World) (S : Nat → Prop) (p : Nat) (ds : List Dg) (sd : Int) : Prop :=
  S p ∧ (∀ i, S i → i < w.heap.size) ∧ ds.length ≤ 4096 ∧ ∃ (l : List Item) (sl : Value) (T : Nat → Prop), l.map Item.dg = ds ∧ Blk w p 59 #[.bool true, sl, .int .i64 sd] ∧ w.ownsRow 0 30 3 sl l.length (rowOf l) ∧
    (∀ k, sl.ownBlock = some k → S k ∧ ¬ T k) ∧ (∀ i, T i → S i ∧ i ≠ p) ∧ ∀ x ∈ l, x.ok w T

theorem Item.ok_kept {w w' : World} {T U : Nat → Prop} {x : Item} (h : x.ok w T) (hm : Mod U w w') (hd : ∀ i, T i → ¬ U i) : x.ok w' T := ⟨h.1.kept hm hd, h.2⟩
theorem Item.ok_mono {w : World} {T U : Nat → Prop} {x : Item} (h : x.ok w T) (hd : ∀ i, T i → U i) : x.ok w U := ⟨h.1.mono hd, h.2⟩

theorem LaneAt.kept {w w' : World} {S U : Nat → Prop} {p : Nat} {ds : List Dg} {sd : Int} (h : LaneAt w S p ds sd) (hm : Mod U w w') (hd : ∀ i, S i → ¬ U i) : LaneAt w' S p ds sd := by
  obtain ⟨h1, h2, h2', l, sl, T, h3, h4, h5, h6, h7, h8⟩ := h
  exact ⟨h1, fun i hi => Nat.lt_of_lt_of_le (h2 i hi) hm.size, h2', l, sl, T, h3, h4.kept hm (hd _ h1), own_mod h5 hm (fun k hk => hd _ (h6 k hk).1) (Nat.le_refl _), h6, h7, fun x hx => Item.ok_kept (h8 x hx) hm (fun i hi => hd _ (h7 i hi).1)⟩

/-- No two blocks of one row's own are of two types. -/
theorem own_ne_blk {w : World} {g t base : Nat} {cs : Array Value} {e : TypeId} {size n : Nat} {v : Value} {xs : List Value} (h : w.ownsRow base e size v n xs) (hg : Blk w g t cs) (hne : e ≠ t) : v.ownBlock ≠ some g := by
  rcases h.2 with ⟨rfl, _⟩ | ⟨g', cap, cur, rfl, _, hh, _⟩
  · simp [Value.ownBlock]
  · intro he
    have : g' = g := by simpa [Value.ownBlock] using he
    subst this
    exact Blk.ne_ (t := e) hh hg hne rfl

def inR (n : Nat) (i : Int) : Bool := decide (0 ≤ i) && decide (i < n)

theorem check_any (p : Nat) (sl : Value) (n : Nat) (sd : Int) (xs : List Value) (i : Int) (w : World) (hb : Blk w p 59 #[.bool true, sl, .int .i64 sd]) (ho : w.ownsRow 0 30 3 sl n xs) (hn : n ≤ 4096) :
    Calls Try.prog 40 #[.pointer (some ⟨p, 0, none⟩), .int .i64 i] w fun e w' => e = .returned (.int .i64 (if inR n i then 0 else 9)) ∧ w = w' := by
  obtain ⟨A, c, rfl⟩ := own_slice ho
  have HB := Lib.hid hb
  obtain ⟨q0, q1, q2, z0, z1, z2⟩ := blk3 hb
  clear hb
  by_cases h0 : i < 0
  · have e : inR n i = false := by simp [inR]; omega
    rw [e]
    go_enter Try.func40, Try.ntmps40
    go_wp2_with (go_at_call 37; refine (none_any p _ sd _ HB.out).mono ?_; rintro e w' ⟨rfl, rfl⟩)
    go_ret
    exact ⟨rfl, rfl⟩
  · by_cases h1 : i < n
    · have e : inR n i = true := by simp [inR]; omega
      rw [e]
      go_enter Try.func40, Try.ntmps40
      go_wp2_with (go_at_call 37; refine (none_any p _ sd _ HB.out).mono ?_; rintro e w' ⟨rfl, rfl⟩)
      go_ret
      exact ⟨rfl, rfl⟩
    · have e : inR n i = false := by simp [inR]; omega
      rw [e]
      go_enter Try.func40, Try.ntmps40
      go_wp2_with (go_at_call 37; refine (none_any p _ sd _ HB.out).mono ?_; rintro e w' ⟨rfl, rfl⟩)
      go_ret
      exact ⟨rfl, rfl⟩
theorem see_in (p k : Nat) (f t sd : Int) (A A' : Option Addr) (g n c c' : Nat) (bs : List Int) (T : Nat → Prop) (xs : List Value) (w : World) (hb : Blk w p 59 #[.bool true, .slice (some ⟨g, 0, none⟩) n c, .int .i64 sd]) (ho : w.ownsRow 0 30 3 (.slice (some ⟨g, 0, none⟩) n c) n xs) (hk : k < n) (hn : n ≤ 4096)
    (e0 : xs[k * 3]? = some (.int .i64 f)) (e1 : xs[k * 3 + 1]? = some (.int .i64 t)) (e2 : xs[k * 3 + 2]? = some (.slice A' bs.length c')) (hr : Rd w T 1 (.slice A' bs.length c') bs.length (bts bs)) (hT : ∀ i, T i → i < w.heap.size) (hl : bs.length ≤ 140737488355328) :
    Calls Try.prog 17 #[.pointer (some ⟨p, 0, none⟩), .int .i64 k] w fun e w' => ∃ A c, e = .returned (.tuple #[.agg #[.int .i64 f, .int .i64 t, .slice A bs.length c], .int .i64 0]) ∧ Fresh w w' A c bs := by
  have d0 : w.cell? ⟨g, k * 3, none⟩ = some (.int .i64 f) := (ho.cellAt _ (by omega)).trans e0
  have d1 : w.cell? ⟨g, k * 3 + 1, none⟩ = some (.int .i64 t) := (ho.cellAt _ (by omega)).trans e1
  have d2 : w.cell? ⟨g, k * 3 + 2, none⟩ = some (.slice A' bs.length c') := (ho.cellAt _ (by omega)).trans e2
  have HB := Lib.hid hb
  obtain ⟨q0, q1, q2, z0, z1, z2⟩ := blk3 hb
  clear hb e0 e1 e2
  have HO := Lib.hid ho
  have HR := Lib.hid hr
  clear ho hr
  have lp := HB.out.lt
  have lg := own_lt HO.out g rfl
  have hin : inR n (k : Int) = true := by simp [inR]; omega
  have i0 : (0 : Int) ≤ (k : Int) := by omega
  have i1 : (k : Int) < (n : Int) := by omega
  go_enter Try.func17, Try.ntmps17
  go_wp2_with (first
    | (go_at_call 40; refine (check_any p _ n sd xs _ _ (Blk.alloc HB.out _) (HO.out.alloc _) hn).mono ?_; rintro e w' ⟨rfl, rfl⟩; rw [hin])
    | (go_at_call 39; refine (own_any T A' c' f t bs _ (HR.out.below (Ba (B0 w) _) hT) (fun i hi => by have := hT i hi; simp; omega) hl).mono ?_; rintro e w1 ⟨A1, c1, rfl, HF⟩; have HBd := (Blk.new w 30 _).later HF.kept; obtain ⟨r0, r1, r2, y0, y1, y2⟩ := blk3 HBd))
  obtain ⟨x0, x1, x2, _⟩ := blk3 (HBd.set3 (.int .i64 f) (.int .i64 t) (.slice A1 bs.length c1))
  refine bodyPost_ret (v := .tuple #[.agg #[.int .i64 f, .int .i64 t, .slice A1 bs.length c1], .int .i64 0]) (by simp [results, Try.results17, go_sem, x0, x1, x2]) rfl ?_
  refine ⟨_, _, rfl, HF.post (Ba (B0 w) _) (((((Mod.refl _ _).setCell (.inl ⟨by simp, by simp⟩) _).setCell (.inl ⟨by simp, by simp⟩) _).setCell (.inl ⟨by simp, by simp⟩) _))⟩

theorem see_out (p : Nat) (i sd : Int) (sl : Value) (n : Nat) (xs : List Value) (w : World) (hb : Blk w p 59 #[.bool true, sl, .int .i64 sd]) (ho : w.ownsRow 0 30 3 sl n xs) (hn : n ≤ 4096) (hin : inR n i = false) :
    Calls Try.prog 17 #[.pointer (some ⟨p, 0, none⟩), .int .i64 i] w fun e w' => ∃ A c, e = .returned (.tuple #[.agg #[.int .i64 0, .int .i64 0, .slice A ([] : List Int).length c], .int .i64 9]) ∧ Fresh w w' A c [] := by
  have HB := Lib.hid hb
  have HO := Lib.hid ho
  clear hb ho
  go_enter Try.func17, Try.ntmps17
  go_wp2_with (go_at_call 40; refine (check_any p _ n sd xs _ _ (Blk.alloc HB.out _) (HO.out.alloc _) hn).mono ?_; rintro e w' ⟨rfl, rfl⟩; rw [hin])
  obtain ⟨x0, x1, x2, _⟩ := blk3 ((Blk.new w 30 #[.int .i64 0, .int .i64 0, .slice none 0 0]).set3 (.int .i64 0) (.int .i64 0) (.slice none 0 0))
  refine bodyPost_ret (v := .tuple #[.agg #[.int .i64 0, .int .i64 0, .slice none 0 0], .int .i64 9]) (by simp [results, Try.results17, go_sem, x0, x1, x2]) rfl ?_
  refine ⟨none, 0, rfl, ⟨by simp [bts], .inl ⟨rfl, rfl⟩⟩, ?_⟩
  first | exact Bs (Bs (Bs (Ba (B0 w) _) (by simp) _) (by simp) _) (by simp) _ | exact Ba (B0 w) _

def seeE (ds : List Dg) (i : Int) : Int := if inR ds.length i then 0 else 9
def seeD (ds : List Dg) (i : Int) : Dg := if inR ds.length i then ds.getD i.toNat ⟨0, 0, []⟩ else ⟨0, 0, []⟩

/-- What See answers: a datagram in memory of its own. -/
def Seen (ds : List Dg) (i : Int) (w : World) (e : Ending) (w' : World) : Prop :=
  ∃ A c, e = .returned (.tuple #[.agg #[.int .i64 (seeD ds i).f, .int .i64 (seeD ds i).t, .slice A (seeD ds i).bs.length c], .int .i64 (seeE ds i)]) ∧ Fresh w w' A c (seeD ds i).bs

theorem see_any (S : Nat → Prop) (p : Nat) (ds : List Dg) (sd i : Int) (w : World) (h : LaneAt w S p ds sd) : Calls Try.prog 17 #[.pointer (some ⟨p, 0, none⟩), .int .i64 i] w (Seen ds i w) := by
  obtain ⟨h1, h2, h2', l, sl, T, h3, h4, h5, h6, h7, h8⟩ := h
  have hl : l.length = ds.length := by rw [← h3]; simp
  unfold Seen seeE seeD
  by_cases hin : inR ds.length i = true
  · simp only [hin, if_true]
    have hin' := hin
    simp only [inR, Bool.and_eq_true, decide_eq_true_eq] at hin'
    obtain ⟨k, rfl⟩ := Int.eq_ofNat_of_zero_le hin'.1
    have hk : k < l.length := by omega
    obtain ⟨g, c, rfl, _⟩ := h5.form (by omega)
    have hx := h8 l[k] (List.getElem_mem hk)
    have e : ds.getD (k : Int).toNat ⟨0, 0, []⟩ = l[k].dg := by
      rw [← h3]
      simp [List.getD_eq_getElem?_getD, hk]
    rw [e]
    exact see_in p k l[k].f l[k].t sd none l[k].A g l.length c l[k].c l[k].bs T _ w h4 h5 hk (by omega) (rowOf_at l k hk 0 (by omega)) (rowOf_at l k hk 1 (by omega)) (rowOf_at l k hk 2 (by omega)) hx.1 (fun i hi => h2 i (h7 i hi).1) hx.2
  · rw [Bool.not_eq_true] at hin
    simp only [hin, if_false, Bool.false_eq_true]
    exact see_out p i sd sl l.length _ w h4 h5 (by omega) (by rw [hl]; exact hin)
end Go.Proofs.Ytekedgokmmkplaa
