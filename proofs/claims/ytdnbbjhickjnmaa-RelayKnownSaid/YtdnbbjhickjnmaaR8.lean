/- The relay's Take; Same, frame. -/
import Derived.Test.YtdnbbjhickjnmaaR7
namespace Go.Proofs.Ytdnbbjhickjnmaa
open Go.RowKit
set_option maxRecDepth 20000
set_option linter.unusedVariables false
set_option linter.unusedSimpArgs false

theorem drewN_below (w : World) (n : Nat) : Below w.heap.size w (w.drewN n) := ⟨rfl, rfl, rfl, Nat.le_refl _, fun _ _ => rfl⟩

def sameF (f t f' t' : Int) (xs ys : List Int) : Bool := decide (f = f') && decide (t = t') && eqB xs ys

theorem same_any (S T : Nat → Prop) (f t f' t' : Int) (A1 A2 : Option Addr) (c1 c2 : Nat) (xs ys : List Int) (w : World) (h1 : Rd w S 1 (.slice A1 xs.length c1) xs.length (bts xs)) (hS : ∀ i, S i → i < w.heap.size)
    (h2 : Rd w T 1 (.slice A2 ys.length c2) ys.length (bts ys)) (hT : ∀ i, T i → i < w.heap.size) :
    Calls Try.prog 19 #[.agg #[.int .i64 f, .int .i64 t, .slice A1 xs.length c1], .agg #[.int .i64 f', .int .i64 t', .slice A2 ys.length c2]] w fun e w' => e = .returned (.bool (sameF f t f' t' xs ys)) ∧ Below w.heap.size w w' := by
  by_cases hf : f = f'
  · by_cases ht : t = t'
    · subst hf
      subst ht
      go_enter Try.func19, Try.ntmps19
      go_wp2_with (go_at_call 41; refine (eq_bytes S T _ _ xs ys _ ?_ ?_).mono ?_; (exact h1.below (((Below.refl _ _).alloc (Nat.le_refl _) _).alloc (by simp) _) hS); (exact h2.below (((Below.refl _ _).alloc (Nat.le_refl _) _).alloc (by simp) _) hT); rintro e w1 ⟨rfl, nd, rfl⟩)
      go_ret
      exact ⟨ret_bool (by simp [sameF]), ((((Below.refl _ _).alloc (Nat.le_refl _) _).alloc (by simp) _)).trans ((drewN_below _ _).mono (by simp; omega))⟩
    · have ht' : (t == t') = false := by simp [ht]
      have HT := Lib.hid ht
      clear ht
      subst hf
      go_enter Try.func19, Try.ntmps19
      go_wp2_with fail
      go_ret
      exact ⟨ret_bool (by simp [sameF, HT.out]), (((Below.refl _ _).alloc (Nat.le_refl _) _).alloc (by simp) _)⟩
  · have hf' : (f == f') = false := by simp [hf]
    have HF := Lib.hid hf
    clear hf
    go_enter Try.func19, Try.ntmps19
    go_wp2_with fail
    go_ret
    exact ⟨ret_bool (by simp [sameF, HF.out]), (((Below.refl _ _).alloc (Nat.le_refl _) _).alloc (by simp) _)⟩

theorem frame_any (f t : Int) (A : Option Addr) (n c : Nat) (w : World) :
    Calls Try.prog 26 #[.int .i64 f, .int .i64 t, .slice A n c] w fun e w' => e = .returned (.agg #[.int .i64 f, .int .i64 t, .slice A n c]) ∧ Below w.heap.size w w' := by
  go_enter Try.func26, Try.ntmps26
  go_wp2
  exact bodyPost_ret (v := .agg #[.int .i64 f, .int .i64 t, .slice A n c]) (by simp [results, Try.results26, go_sem]) rfl ⟨rfl, Ba (B0 w) _⟩

def takE (q : Nat → List Dg) (n : Int) : Int := if nodeB n then (if (q n.toNat).length = 0 then 240 else 0) else 220
def takD (q : Nat → List Dg) (n : Int) : Dg := if takE q n = 0 then (q n.toNat).headD ⟨0, 0, []⟩ else ⟨0, 0, []⟩
def takQ (q : Nat → List Dg) (n : Int) : Nat → List Dg := if takE q n = 0 then upd q n.toNat (q n.toNat).tail else q

/-- What Take answers: a frame, its bytes in blocks of T. -/
def Took (S : Nat → Prop) (p : Nat) (q : Nat → List Dg) (n : Int) (w : World) (e : Ending) (w' : World) : Prop :=
  ∃ A c, e = .returned (.tuple #[.agg #[.int .i64 (takD q n).f, .int .i64 (takD q n).t, .slice A (takD q n).bs.length c], .int .i64 (takE q n)]) ∧ Rd w' S 1 (.slice A (takD q n).bs.length c) (takD q n).bs.length (bts (takD q n).bs) ∧
    Mod S w w' ∧ RelAt w' S p (takQ q n)

theorem take_err (p : Nat) (n : Int) (vs : Nat → Value) (w : World) (hb : Blk w p 78 (relCells vs)) (hn : nodeB n = false) :
    Calls Try.prog 17 #[.pointer (some ⟨p, 0, none⟩), .int .i64 n] w fun e w' => e = .returned (.tuple #[.agg #[.int .i64 0, .int .i64 0, .slice none 0 0], .int .i64 220]) ∧ Below w.heap.size w w' := by
  have q0 : w.cell? ⟨p, 0, none⟩ = some (.bool true) := hb.cell 0
  have lp := hb.lt
  have HN := Lib.hid hn
  clear hn hb
  go_enter Try.func17, Try.ntmps17
  go_wp2_with (go_at_call 48; refine (node_any n _).mono ?_; rintro e w' ⟨rfl, rfl⟩; rw [HN.out])
  obtain ⟨x0, x1, x2, _⟩ := blk3 ((Blk.new w 31 #[.int .i64 0, .int .i64 0, .slice none 0 0]).set3 (.int .i64 0) (.int .i64 0) (.slice none 0 0))
  refine bodyPost_ret (v := .tuple #[.agg #[.int .i64 0, .int .i64 0, .slice none 0 0], .int .i64 220]) (by simp [results, Try.results17, go_sem, x0, x1, x2]) rfl ⟨rfl, ?_⟩
  first | exact Bs (Bs (Bs (Ba (B0 w) _) (by simp) _) (by simp) _) (by simp) _ | exact Ba (B0 w) _
theorem take_none (p k : Nat) (vs : Nat → Value) (As : Option Addr) (cs : Nat) (w : World) (hb : Blk w p 78 (relCells vs)) (hn : nodeB k = true) (hk : k < 9) (hv : vs k = .slice As 0 cs) :
    Calls Try.prog 17 #[.pointer (some ⟨p, 0, none⟩), .int .i64 k] w fun e w' => e = .returned (.tuple #[.agg #[.int .i64 0, .int .i64 0, .slice none 0 0], .int .i64 240]) ∧ Below w.heap.size w w' := by
  have q0 : w.cell? ⟨p, 0, none⟩ = some (.bool true) := hb.cell 0
  have q1 := (hb.cell (1 + k)).trans (relCells_at vs k hk)
  rw [hv] at q1
  have lp := hb.lt
  have HN := Lib.hid hn
  have k0 : (0 : Int) ≤ (k : Int) := by omega
  have k1 : (k : Int) < 9 := by omega
  clear hn hb hv
  go_enter Try.func17, Try.ntmps17
  go_wp2_with (go_at_call 48; refine (node_any k _).mono ?_; rintro e w' ⟨rfl, rfl⟩; rw [HN.out])
  obtain ⟨x0, x1, x2, _⟩ := blk3 ((Blk.new w 31 #[.int .i64 0, .int .i64 0, .slice none 0 0]).set3 (.int .i64 0) (.int .i64 0) (.slice none 0 0))
  refine bodyPost_ret (v := .tuple #[.agg #[.int .i64 0, .int .i64 0, .slice none 0 0], .int .i64 240]) (by simp [results, Try.results17, go_sem, x0, x1, x2]) rfl ⟨rfl, ?_⟩
  first | exact Bs (Bs (Bs (Ba (B0 w) _) (by simp) _) (by simp) _) (by simp) _ | exact Ba (B0 w) _
theorem delete0 (sl : Value) (l : List Item) (hi : 0 < l.length) (w : World) (h : w.ownsRow 0 31 3 sl l.length (rowOf l)) :
    Calls Try.prog 49 #[sl, .int .i64 0, .int .i64 1] w fun e w' => ∃ A c, e = .returned (.slice A (l.length - 1) c) ∧ w'.ownsRow 0 31 3 (.slice A (l.length - 1) c) (l.length - 1) (rowOf l.tail) ∧
      sl.ownBlock = (Value.slice A (l.length - 1) c).ownBlock ∧ Mod (fun k => sl.ownBlock = some k) w w' := by
  have := delete_any sl l 0 hi w h
  simpa using this

set_option maxHeartbeats 1000000 in
theorem take_ok (p k : Nat) (vs : Nat → Value) (l : List Item) (hl : 0 < l.length) (h16 : l.length ≤ 16) (w : World) (hb : Blk w p 78 (relCells vs)) (hn : nodeB k = true) (hk : k < 9) (ho : w.ownsRow 0 31 3 (vs k) l.length (rowOf l)) :
    Calls Try.prog 17 #[.pointer (some ⟨p, 0, none⟩), .int .i64 k] w fun e w' => e = .returned (.tuple #[.agg #[.int .i64 l[0].f, .int .i64 l[0].t, .slice l[0].A l[0].bs.length l[0].c], .int .i64 0]) ∧
      ∃ A2 c2 W w2, Below w.heap.size w W ∧ W.ownsRow 0 31 3 (vs k) l.length (rowOf l) ∧ w2.ownsRow 0 31 3 (.slice A2 (l.length - 1) c2) (l.length - 1) (rowOf l.tail) ∧ (vs k).ownBlock = (Value.slice A2 (l.length - 1) c2).ownBlock ∧ Mod (fun i => (vs k).ownBlock = some i) W w2 ∧ Mod (fun i => i = w.heap.size) (w2.setCell ⟨p, 1 + k, none⟩ (.slice A2 (l.length - 1) c2)) w' := by
  have q0 : w.cell? ⟨p, 0, none⟩ = some (.bool true) := hb.cell 0
  have q1 := (hb.cell (1 + k)).trans (relCells_at vs k hk)
  obtain ⟨g, cp, hv, _⟩ := ho.form hl
  rw [hv] at q1 ho ⊢
  have lp := hb.lt
  have HN := Lib.hid hn
  have k0 : (0 : Int) ≤ (k : Int) := by omega
  have k1 : (k : Int) < 9 := by omega
  obtain ⟨x, hx⟩ : ∃ x, x = l[0] := ⟨_, rfl⟩
  have d0 : w.cell? ⟨g, 0, none⟩ = some (.int .i64 x.f) := hx ▸ (ho.cellAt _ (by omega)).trans (rowOf_at l 0 hl 0 (by omega))
  have d1 : w.cell? ⟨g, 1, none⟩ = some (.int .i64 x.t) := hx ▸ (ho.cellAt _ (by omega)).trans (rowOf_at l 0 hl 1 (by omega))
  have d2 : w.cell? ⟨g, 2, none⟩ = some (.slice x.A x.bs.length x.c) := hx ▸ (ho.cellAt _ (by omega)).trans (rowOf_at l 0 hl 2 (by omega))
  rw [← hx]
  have HB := Lib.hid hb
  have HO := Lib.hid ho
  have lg := own_lt ho g rfl
  have hl0 : ((l.length : Int) == 0) = false := by rw [beq_eq_false_iff_ne]; omega
  have hl1 : (0 : Int) < (l.length : Int) := by omega
  clear hn hb ho hx
  go_enter Try.func17, Try.ntmps17
  go_wp2_with (go_at_call 48; refine (node_any k _).mono ?_; rintro e w' ⟨rfl, rfl⟩; rw [HN.out])
  obtain ⟨W1, hW1⟩ : ∃ W1, W1 = (w.alloc (.cells #[.int .i64 0, .int .i64 0, .slice none 0 0] 31)).alloc (.cells #[.int .i64 x.f, .int .i64 x.t, .slice x.A x.bs.length x.c] 31) := ⟨_, rfl⟩
  rw [← hW1]
  have HW1 := Lib.hid (show Below w.heap.size w W1 from hW1 ▸ Ba (Ba (B0 w) _) _)
  have Hr := Lib.hid (show Blk W1 w.heap.size 31 #[.int .i64 0, .int .i64 0, .slice none 0 0] from hW1 ▸ (Blk.new w 31 _).alloc _)
  have Hf := Lib.hid (show Blk W1 (w.heap.size + 1) 31 #[.int .i64 x.f, .int .i64 x.t, .slice x.A x.bs.length x.c] from hW1 ▸ Blk.new1 w _ 31 _)
  have HBp := Lib.hid (HB.out.later HW1.out)
  have HO1 := Lib.hid (own_below HO.out HW1.out)
  clear hW1 d0 d1 d2
  replace q1 : W1.cell? ⟨p, 1 + k, none⟩ = some (.slice (some ⟨g, 0, none⟩) l.length cp) := (HW1.out.cell lp).trans q1
  have hne := Lib.hid (own_ne_blk HO.out HB.out (show (31 : TypeId) ≠ 78 by decide))
  go_region_law (first
    | (go_simp; go_at_call 49; refine (delete0 (.slice (some ⟨g, 0, none⟩) l.length cp) l hl _ (own_below HO1.out (Bd (B0 W1)))).mono ?_; rintro e w2 ⟨A2, c2, rfl, own2, hob, hm2⟩; have hB2 := HBp.out.drew.kept hm2 hne.out; have q2 := (hB2.cell (1 + k)).trans (relCells_at vs k hk); have z2 := hB2.frozen (1 + k)))
  have hob' : ∀ i, (Value.slice (some ⟨g, 0, none⟩) l.length cp).ownBlock = some i → i = g := by
    intro i hi
    simpa [Value.ownBlock, eq_comm] using hi
  obtain ⟨W2, hW2⟩ : ∃ W2, W2 = w2.setCell ⟨p, 1 + k, none⟩ (.slice A2 (l.length - 1) c2) := ⟨_, rfl⟩
  rw [← hW2]
  have Hr2 : Blk W2 w.heap.size 31 #[.int .i64 0, .int .i64 0, .slice none 0 0] := hW2 ▸ (Hr.out.drew.kept hm2 (fun h => by have := hob' _ h; omega)).far (by simp; omega) _
  have Hf2 : Blk W2 (w.heap.size + 1) 31 #[.int .i64 x.f, .int .i64 x.t, .slice x.A x.bs.length x.c] := hW2 ▸ (Hf.out.drew.kept hm2 (fun h => by have := hob' _ h; omega)).far (by simp; omega) _
  obtain ⟨f0, f1, f2, g0, g1, g2⟩ := blk3 Hf2
  obtain ⟨r0, r1, r2, s0, s1, s2⟩ := blk3 Hr2
  have HW2 := Lib.hid hW2
  have HM2 := Lib.hid hm2
  have HOwn := Lib.hid (And.intro own2 hob)
  clear hW2 hm2 own2 hob q2 z2 hB2
  go_wp2_with fail
  obtain ⟨x0, x1, x2, _⟩ := blk3 (Hr2.set3 (.int .i64 x.f) (.int .i64 x.t) (.slice x.A x.bs.length x.c))
  refine bodyPost_ret (v := .tuple #[.agg #[.int .i64 x.f, .int .i64 x.t, .slice x.A x.bs.length x.c], .int .i64 0]) (by simp [results, Try.results17, go_sem, x0, x1, x2]) rfl ⟨rfl, A2, c2, W1.drew, w2, Bd HW1.out, HO1.out, HOwn.out.1, HOwn.out.2, HM2.out, ?_⟩
  rw [← HW2.out]
  exact (((Mod.refl (fun i => i = w.heap.size) W2).setCell (.inl rfl) _).setCell (.inl rfl) _).setCell (.inl rfl) _
end Go.Proofs.Ytdnbbjhickjnmaa
