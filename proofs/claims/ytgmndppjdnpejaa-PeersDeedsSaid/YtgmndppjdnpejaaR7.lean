/- The document's table: New, Version, Now, Set. -/
import Derived.Test.YtgmndppjdnpejaaR6
namespace Go.Proofs.Ytgmndppjdnpejaa
open Go.RowKit
set_option maxRecDepth 20000
set_option linter.unusedVariables false
set_option linter.unusedSimpArgs false

def spl (l : List Value) (o : Nat) (L : List Value) : List Value := l.take o ++ (L ++ l.drop (o + L.length))
theorem Blk.sets {g : Nat} {e : TypeId} : ∀ (L l : List Value) (o : Nat) (w : World), Blk w g e l.toArray → o + L.length ≤ l.length → Blk (w.setCells g o L) g e (spl l o L).toArray
  | [], l, o, w, h, _ => by simpa [World.setCells, spl] using h
  | v :: r, l, o, w, h, ho => by
    have h1 := h.set_ o v
    rw [List.setIfInBounds_toArray] at h1
    have hol : o < l.length := by simp at ho; omega
    have h2 := Blk.sets r (l.set o v) (o + 1) _ h1 (by simp at ho ⊢; omega)
    have hlen : (l.take o).length = o := by simp; omega
    have e1 : (l.set o v).take (o + 1) = l.take o ++ [v] := by
      rw [List.set_eq_take_append_cons_drop, if_pos hol, List.take_append, List.take_of_length_le (by omega), hlen]
      simp
    have e2 : (l.set o v).drop (o + 1 + r.length) = l.drop (o + (v :: r).length) := by
      rw [List.drop_set_of_lt (by omega)]
      congr 1
      simp
      omega
    have e : spl (l.set o v) (o + 1) r = spl l o (v :: r) := by
      unfold spl
      rw [e1, e2]
      simp
    rw [e] at h2
    exact h2
theorem mod_sets' {S : Nat → Prop} {a : World} : ∀ (vs : List Value) (g o : Nat) (b : World), Mod S a b → S g → Mod S a (b.setCells g o vs)
  | [], _, _, _, h, _ => h
  | v :: r, g, o, b, h, hg => mod_sets' r g (o + 1) _ (h.setCell (p := ⟨g, o, none⟩) (.inl hg) v) hg
theorem sets_size : ∀ (vs : List Value) (g o : Nat) (b : World), (b.setCells g o vs).heap.size = b.heap.size
  | [], _, _, _ => rfl
  | v :: r, g, o, b => by rw [World.setCells, sets_size r]; simp
theorem step_store_at {t : TypeId} {n : Nat} (B : BigT t n) {ops : Array Oper} {rest : List Oper} {op : Oper} {a : Act} {w : World} {Q : Exit → Act → World → Prop} (hgd : op.guard = none) (x y : Operand) (ho : op.op = .store t x y)
    (g o : Nat) (hx : a.eval x = .pointer (some ⟨g, o, none⟩)) (L : List Value) (hL : L.length = n) (h1 : ∀ v ∈ L, v.oneCell' = true) (hy : a.eval y = .agg L.toArray) (e : TypeId) (old : List Value) (hb : Blk w g e old.toArray) (hs : o + n ≤ old.length)
    (h : ∀ w', Blk w' g e (spl old o L).toArray → Mod (fun j => j = g) w w' → w'.heap.size = w.heap.size → wpList Try.prog ops Q rest (a.put op.dst undef) w') : wpList Try.prog ops Q (op :: rest) a w :=
  wpList_store_mid hgd t x y ho g o L.toArray hx hy (fun j hj => by
    have hjl : j < L.length := by simpa using hj
    exact ⟨by rw [hb.cell (o + j)]; simp; omega, hb.frozen (o + j)⟩) (by rw [B.sz]; simp [hL]) (all_one h1)
    (h _ (Blk.sets L old o w hb (by omega)) (mod_sets' L g o w (Mod.refl _ w) rfl) (sets_size L g o w))

/-- The document's table. -/
def rtL (node : Int) (has : Bool) (m : Nm) (tick : Int) : List Value := .int .i64 node :: .bool has :: (m.L ++ [.int .i64 tick])
structure RtAt (w : World) (S : Nat → Prop) (g : Nat) (node : Int) (has : Bool) (m : Nm) (tick : Int) : Prop where
  mem : S g
  lts : ∀ i, S i → i < w.heap.size
  blk : Blk w g 73 (rtL node has m tick).toArray
  nm : NmAt w (fun i => S i ∧ i ≠ g) m
theorem RtAt.kept {w w' : World} {S T : Nat → Prop} {g : Nat} {node tick : Int} {has : Bool} {m : Nm} (h : RtAt w S g node has m tick) (hm : Mod T w w') (hd : ∀ i, S i → ¬ T i) : RtAt w' S g node has m tick :=
  ⟨h.mem, fun i hi => Nat.lt_of_lt_of_le (h.lts i hi) hm.size, h.blk.kept hm (hd _ h.mem), h.nm.kept hm (fun i hi => hd i hi.1)⟩
theorem RtAt.below {w w' : World} {S : Nat → Prop} {g : Nat} {node tick : Int} {has : Bool} {m : Nm} (h : RtAt w S g node has m tick) (hb : Below w.heap.size w w') : RtAt w' S g node has m tick :=
  h.kept (Mod.of_below (S := fun _ => False) hb) (fun _ _ h => h)
theorem rt_cells {w : World} {g : Nat} {node tick : Int} {has : Bool} {m : Nm} (h : Blk w g 73 (rtL node has m tick).toArray) (hk : m.ks.length = 32) :
    w.cell? ⟨g, 0, none⟩ = some (.int .i64 node) ∧ w.cell? ⟨g, 1, none⟩ = some (.bool has) ∧ w.cell? ⟨g, 2, none⟩ = some (.int .i64 m.ver) ∧ w.cell? ⟨g, 38, none⟩ = some (.slice m.PA m.ps.length m.pc) ∧ w.cell? ⟨g, 39, none⟩ = some (.int .i64 tick) := by
  have hl := Nm.len hk
  refine ⟨h.cell 0, h.cell 1, h.cell 2, (h.cell 38).trans ?_, (h.cell 39).trans ?_⟩
  · simp only [rtL, List.getElem?_toArray, List.getElem?_cons_succ]
    rw [List.getElem?_append_left (by rw [hl]; omega)]
    simp [Nm.L, List.getElem?_append_right, hk, bts]
  · simp only [rtL, List.getElem?_toArray, List.getElem?_cons_succ]
    rw [List.getElem?_append_right (by rw [hl]; omega), hl]
    rfl
theorem rtL_spl {node tick : Int} {has : Bool} {m n : Nm} (hm : m.ks.length = 32) (hn : n.ks.length = 32) : spl (rtL node has m tick) 2 n.L = rtL node has n tick := by
  have h1 := Nm.len hm
  have h2 := Nm.len hn
  unfold spl rtL
  rw [h2, show 2 + 37 = 37 + 1 + 1 by omega, List.drop_succ_cons, List.drop_succ_cons, List.drop_append, h1]
  simp [h1]
theorem rtL_has {node tick : Int} {has b : Bool} {m : Nm} : (rtL node has m tick).toArray.setIfInBounds 1 (.bool b) = (rtL node b m tick).toArray := by
  simp only [rtL, List.setIfInBounds_toArray]
  rfl
theorem rtL_tick {node tick t : Int} {has : Bool} {m : Nm} (hm : m.ks.length = 32) : (rtL node has m tick).toArray.setIfInBounds 39 (.int .i64 t) = (rtL node has m t).toArray := by
  have h1 := Nm.len hm
  simp only [rtL, List.setIfInBounds_toArray]
  rw [show 39 = 37 + 1 + 1 by omega, List.set_cons_succ, List.set_cons_succ, List.set_append_right _ _ (by omega), h1]
  rfl
theorem zNm_at (w : World) (S : Nat → Prop) : NmAt w S zNm := ⟨z32_len, z32_byt, Rd.nil _ _ _, fun p hp => absurd hp (by simp [zNm])⟩
theorem rnew_bad (n : Int) (w : World) (h : ndB n = false) : Calls Try.prog 11 #[.int .i64 n] w fun e w' => e = .returned (.tuple #[.pointer none, .int .i64 220]) ∧ w = w' := by
  have h' : ¬ (1 ≤ n ∧ n ≤ 8) := fun hh => by have : ndB n = true := by simp [ndB]; omega
                                              rw [h] at this; cases this
  clear h
  by_cases h1 : n < 1
  · go_enter Try.func11, Try.ntmps11
    go_wp2
    go_ret2
    exact ⟨rfl, rfl⟩
  · have h2 : 8 < n := by omega
    go_enter Try.func11, Try.ntmps11
    go_wp2
    go_ret2
    exact ⟨rfl, rfl⟩
theorem build_rt (n : Int) (w : World) : (Instr.build 73 ([(0, .int .i64 n)] : List (Nat × Value)).toArray).run Try.prog w = .ok (.agg (rtL n false zNm 0).toArray) w := by kernel_rfl
theorem rnew_ok (n : Int) (w : World) (h : ndB n = true) : Calls Try.prog 11 #[.int .i64 n] w fun e w' => ∃ g, e = .returned (.tuple #[.pointer (some ⟨g, 0, none⟩), .int .i64 0]) ∧ RtAt w' (fun i => i = g) g n false zNm 0 ∧ w.heap.size ≤ g ∧ Below w.heap.size w w' := by
  obtain ⟨h1, h2⟩ := ndB_le h
  have h1' : ¬ n < 1 := by omega
  have h2' : ¬ 8 < n := by omega
  clear h
  obtain ⟨L, hL⟩ : ∃ L, L = rtL n false zNm 0 := ⟨_, rfl⟩
  have HL := Lib.hid hL
  have HB := Lib.hid (show ∀ w, (Instr.build 73 ([(0, .int .i64 n)] : List (Nat × Value)).toArray).run Try.prog w = .ok (.agg L.toArray) w by rw [hL]; exact build_rt n)
  clear hL
  go_enter Try.func11, Try.ntmps11
  go_wp2_with (first | (refine step_build (t := 73) (by first | rfl | simp [Region.wanted, yielded]) _ rfl [(0, .int .i64 n)] rfl L.toArray (HB.out _) ?_) | fail)
  go_ret2
  exact ⟨w.heap.size, rfl, ⟨rfl, fun i hi => by subst hi; simp, by rw [← HL.out]; exact Blk.new w _ _, zNm_at _ _⟩, Nat.le_refl _, Ba (B0 w) _⟩
theorem rversion_any (S : Nat → Prop) (g : Nat) (node tick : Int) (has : Bool) (m : Nm) (w : World) (h : RtAt w S g node has m tick) :
    Calls Try.prog 38 #[.pointer (some ⟨g, 0, none⟩)] w fun e w' => e = .returned (.int .i64 m.ver) ∧ w = w' := by
  have x := (rt_cells h.blk h.nm.k32).2.2.1
  have lg := h.blk.lt
  clear h
  go_enter Try.func38, Try.ntmps38
  go_wp2
  go_ret
  exact ⟨rfl, rfl⟩
def RNowDid (S : Nat → Prop) (g : Nat) (node tick t : Int) (has : Bool) (m : Nm) (w : World) (e : Ending) (w' : World) : Prop :=
  e = .returned (.int .i64 (nowE tick t)) ∧ RtAt w' S g node has m (nowT tick t) ∧ Mod (fun i => i = g) w w'
set_option maxHeartbeats 1000000 in
theorem rnow_any (S : Nat → Prop) (g : Nat) (node tick t : Int) (has : Bool) (m : Nm) (w : World) (h : RtAt w S g node has m tick) :
    Calls Try.prog 17 #[.pointer (some ⟨g, 0, none⟩), .int .i64 t] w (RNowDid S g node tick t has m w) := by
  have H := Lib.hid h
  have x := (rt_cells h.blk h.nm.k32).2.2.2.2
  have f := h.blk.frozen 39
  have lg := h.blk.lt
  clear h
  by_cases q1 : t < 0
  · have HE : Hid (nowE tick t = 9) := Lib.hid (if_pos (.inl q1))
    go_enter Try.func17, Try.ntmps17
    go_wp2_with fail
    go_ret
    exact ⟨ret_int HE.out.symm, by unfold nowT; rw [HE.out, if_neg (by decide)]; exact H.out, Mod.refl _ _⟩
  · by_cases q2 : 9007199254740991 < t
    · have HE : Hid (nowE tick t = 9) := Lib.hid (if_pos (.inr q2))
      go_enter Try.func17, Try.ntmps17
      go_wp2_with fail
      go_ret
      exact ⟨ret_int HE.out.symm, by unfold nowT; rw [HE.out, if_neg (by decide)]; exact H.out, Mod.refl _ _⟩
    · by_cases q3 : t < tick
      · have HE : Hid (nowE tick t = 201) := Lib.hid (by unfold nowE; rw [if_neg (by omega), if_pos q3])
        go_enter Try.func17, Try.ntmps17
        go_wp2_with fail
        go_ret
        exact ⟨ret_int HE.out.symm, by unfold nowT; rw [HE.out, if_neg (by decide)]; exact H.out, Mod.refl _ _⟩
      · have HE : Hid (nowE tick t = 0) := Lib.hid (by unfold nowE; rw [if_neg (by omega), if_neg q3])
        go_enter Try.func17, Try.ntmps17
        go_wp2_with fail
        go_ret
        have hm : Mod (fun i => i = g) w (w.setCell ⟨g, 39, none⟩ (.int .i64 t)) := (Mod.refl (fun i => i = g) w).setCell (p := ⟨g, 39, none⟩) (.inl rfl) _
        refine ⟨ret_int HE.out.symm, ?_, hm⟩
        unfold nowT
        rw [HE.out, if_pos rfl]
        refine ⟨H.out.mem, fun i hi => by simpa using H.out.lts i hi, ?_, H.out.nm.kept hm (fun i hi => hi.2)⟩
        have := H.out.blk.set_ 39 (.int .i64 t)
        rw [rtL_tick H.out.nm.k32] at this
        exact this
end Go.Proofs.Ytgmndppjdnpejaa
