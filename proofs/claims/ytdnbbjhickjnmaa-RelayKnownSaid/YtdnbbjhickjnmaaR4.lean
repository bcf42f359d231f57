/- Frames in a row; slices.Delete. -/
import Derived.Test.YtdnbbjhickjnmaaR3
namespace Go.Proofs.Ytdnbbjhickjnmaa
open Go.RowKit
set_option maxRecDepth 20000
set_option linter.unusedVariables false
set_option linter.unusedSimpArgs false

theorem info31 : (Try.prog.info? 31).map (fun i => (i.zero, i.size, i.bytes)) = some (some (.agg #[.int .i64 0, .int .i64 0, .slice none 0 0]), 3, 40) := by kernel_rfl

/-- A datagram as it lies in a row: its bytes are a slice. -/
structure Item where
  f : Int
  t : Int
  A : Option Addr
  c : Nat
  bs : List Int
def Item.cells (x : Item) : List Value := [.int .i64 x.f, .int .i64 x.t, .slice x.A x.bs.length x.c]
structure Dg where
  f : Int
  t : Int
  bs : List Int
def Item.dg (x : Item) : Dg := ⟨x.f, x.t, x.bs⟩
def rowOf (l : List Item) : List Value := l.flatMap Item.cells
def Item.ok (w : World) (S : Nat → Prop) (x : Item) : Prop := Rd w S 1 (.slice x.A x.bs.length x.c) x.bs.length (bts x.bs) ∧ x.bs.length ≤ 140737488355328

theorem rowOf_length (l : List Item) : (rowOf l).length = l.length * 3 := by
  induction l with
  | nil => rfl
  | cons x l ih => simp [rowOf, Item.cells] at ih ⊢; omega
theorem rowOf_append (l m : List Item) : rowOf (l ++ m) = rowOf l ++ rowOf m := by simp [rowOf]
theorem rowOf_one (l : List Item) : ∀ u ∈ rowOf l, u.oneCell' = true := by
  intro u hu
  simp only [rowOf, List.mem_flatMap] at hu
  obtain ⟨x, _, hx⟩ := hu
  simp [Item.cells] at hx
  rcases hx with rfl | rfl | rfl <;> rfl
theorem rowOf_take (l : List Item) (i : Nat) (hi : i ≤ l.length) : (rowOf l).take (i * 3) = rowOf (l.take i) := by
  conv => lhs; rw [← List.take_append_drop i l, rowOf_append]
  exact List.take_left' (by rw [rowOf_length, List.length_take]; omega)
theorem rowOf_drop (l : List Item) (i : Nat) (hi : i ≤ l.length) : (rowOf l).drop (i * 3) = rowOf (l.drop i) := by
  conv => lhs; rw [← List.take_append_drop i l, rowOf_append]
  exact List.drop_left' (by rw [rowOf_length, List.length_take]; omega)
theorem rowOf_at (l : List Item) (i : Nat) (hi : i < l.length) (j : Nat) (hj : j < 3) : (rowOf l)[i * 3 + j]? = (l[i]).cells[j]? := by
  have h1 := congrArg (fun (m : List Value) => m[j]?) (rowOf_drop l i (by omega))
  simp only [List.getElem?_drop] at h1
  have : rowOf (l.drop i) = l[i].cells ++ rowOf (l.drop (i + 1)) := by
    rw [List.drop_eq_getElem_cons hi]
    rfl
  rw [h1, this, List.getElem?_append_left (by simpa [Item.cells] using hj)]

/-- The row's end, as a slice of its own. -/
theorem rd_tail (w : World) (g cap n i : Nat) (cur : Array Value) (l : List Item) (hg : Blk w g 31 cur) (hn : l.length = n) (hnc : n ≤ cap) (hcm : cap ≤ maxLen) (htk : cur.toList.take (n * 3) = rowOf l) (hi : i ≤ n) (A : Option Addr) (hA : i < n → A = some ⟨g, i * 3, none⟩) :
    Rd w (fun k => k = g) 3 (.slice A (n - i) (cap - i)) (n - i) (rowOf (l.drop i)) := by
  refine ⟨by rw [rowOf_length, List.length_drop, hn], A, cap - i, rfl, by omega, by omega, fun h0 => ⟨g, i * 3, hA (by omega), rfl, fun j u hu => ?_⟩⟩
  rw [hg.cell]
  have hj : j < (n - i) * 3 := by
    rcases Nat.lt_or_ge j ((n - i) * 3) with h1 | h1
    · exact h1
    · rw [List.getElem?_eq_none (by rw [rowOf_length, List.length_drop, hn]; exact h1)] at hu; cases hu
  rw [← rowOf_drop l i (by omega), ← htk, List.getElem?_drop, List.getElem?_take, if_pos (by omega)] at hu
  simpa using hu

theorem run_zero31 (w : World) : (zeroValue 31).run Try.prog w = .ok (.agg #[.int .i64 0, .int .i64 0, .slice none 0 0]) w := by kernel_rfl

theorem delete_end (l : List Item) (i m cap g : Nat) (cur cur3 : Array Value) (w w2 w3 : World) (hn : l.length = i + 1 + m) (htk : cur.toList.take (l.length * 3) = rowOf l) (hcs : cur.size = cap * 3) (hnc : i + 1 + m ≤ cap) (hcm : cap ≤ maxLen)
    (hb : Blk w3 g 31 cur3) (hm2 : Mod (fun k => k = g) w.drew w2) (hm3 : Mod (fun k => k = g) w2 w3)
    (h3 : cur3.size = (cur.toList.take (i * 3) ++ rowOf (l.drop (i + 1)) ++ cur.toList.drop (i * 3 + (rowOf (l.drop (i + 1))).length)).toArray.size)
    (h4 : cur3.toList.take ((i + m) * 3) = (cur.toList.take (i * 3) ++ rowOf (l.drop (i + 1)) ++ cur.toList.drop (i * 3 + (rowOf (l.drop (i + 1))).length)).toArray.toList.take ((i + m) * 3)) :
    ∃ A c, Ending.returned (.slice (some ⟨g, 0, none⟩) (i + m) cap) = .returned (.slice A (i + m) c) ∧ w3.ownsRow 0 31 3 (.slice A (i + m) c) (i + m) (rowOf (l.eraseIdx i)) ∧
      (Value.slice (some ⟨g, 0, none⟩) (i + 1 + m) cap).ownBlock = (Value.slice A (i + m) c).ownBlock ∧ Mod (fun k => (Value.slice (some ⟨g, 0, none⟩) (i + 1 + m) cap).ownBlock = some k) w w3 := by
  have hle : (rowOf (l.drop (i + 1))).length = m * 3 := by rw [rowOf_length, List.length_drop]; omega
  have hsz : cur.toList.length = cap * 3 := by simpa using hcs
  have e0 : cur.toList.take (i * 3) = rowOf (l.take i) := by
    rw [← rowOf_take l i (by omega), ← htk, List.take_take]
    congr 1
    omega
  have e1 : rowOf (l.eraseIdx i) = cur.toList.take (i * 3) ++ rowOf (l.drop (i + 1)) := by rw [e0, ← rowOf_append, List.eraseIdx_eq_take_drop_succ]
  refine ⟨_, _, rfl, ⟨?_, .inr ⟨g, cap, cur3, rfl, Nat.zero_le _, hb, by omega, hcm, ?_, ?_⟩⟩, rfl, ?_⟩
  · rw [rowOf_length, List.length_eraseIdx]; split <;> omega
  · rw [h3]
    simp only [List.size_toArray, List.length_append, List.length_take, List.length_drop, hle, hsz]
    omega
  · rw [h4, e1]
    exact List.take_left' (by simp only [List.length_append, List.length_take, hle, hsz]; omega)
  · exact ((Mod.refl (fun k => (Value.slice (some ⟨g, 0, none⟩) (i + 1 + m) cap).ownBlock = some k) w).drew.trans hm2 (fun j hj => .inl (by simp [Value.ownBlock, hj]))).trans hm3 (fun j hj => .inl (by simp [Value.ownBlock, hj]))

set_option maxHeartbeats 1000000 in
theorem delete_any (sl : Value) (l : List Item) (i : Nat) (hi : i < l.length) (w : World) (h : w.ownsRow 0 31 3 sl l.length (rowOf l)) :
    Calls Try.prog 49 #[sl, .int .i64 i, .int .i64 (i + 1)] w fun e w' => ∃ A c, e = .returned (.slice A (l.length - 1) c) ∧ w'.ownsRow 0 31 3 (.slice A (l.length - 1) c) (l.length - 1) (rowOf (l.eraseIdx i)) ∧
      sl.ownBlock = (Value.slice A (l.length - 1) c).ownBlock ∧ Mod (fun k => sl.ownBlock = some k) w w' := by
  obtain ⟨i0, hi0, hz0, hz1, hz2⟩ := info_parts info31
  obtain ⟨hl, ⟨rfl, h0⟩ | ⟨g, cap, cur, rfl, _, hg, hnc, hcm, hcs, htk⟩⟩ := h
  · omega
  · have HCM := Lib.hid hcm
    unfold maxLen at hcm
    have h1 : ((i : Int) == (i : Int) + 1) = false := by simp; omega
    have HG := Lib.hid hg
    have HCS := Lib.hid hcs
    have HTK := Lib.hid htk
    have HL := Lib.hid hl
    clear hg hcs htk hl
    obtain ⟨m, hn⟩ : ∃ m, l.length = i + 1 + m := ⟨l.length - (i + 1), by omega⟩
    have HN := Lib.hid hn
    rw [hn] at hnc ⊢
    clear hn hi
    have b0 : (0 : Int) ≤ (i : Int) := by omega
    have b1 : (i : Int) ≤ (cap : Int) := by omega
    have b2 : (0 : Int) ≤ (i : Int) + 1 := by omega
    have b3 : (i : Int) + 1 ≤ (i : Int) + 1 + (m : Int) := by omega
    have b4 : (i : Int) + 1 + (m : Int) ≤ (cap : Int) := by omega
    have HR : Hid (∀ A : Option Addr, (0 < m → A = some ⟨g, (i + 1) * 3, none⟩) → Rd w.drew (fun k => k = g) 3 (.slice A m (cap - (i + 1))) m (rowOf (l.drop (i + 1)))) := by
      intro A hA
      have h2 := rd_tail w g cap (i + 1 + m) (i + 1) cur l HG.out HN.out (by omega) HCM.out (by rw [← HN.out]; exact HTK.out) (by omega) A (fun h => hA (by omega))
      rw [show i + 1 + m - (i + 1) = m from by omega] at h2
      exact h2
    rw [show i + 1 + m - 1 = i + m from by omega]
    by_cases hc : cap = i + 1
    · obtain rfl : m = 0 := by omega
      subst hc
      replace HR := Lib.hid (HR.out (some ⟨g, 0, none⟩) (by omega))
      clear b1 b3 b4
      have b1 : (i : Int) ≤ (i : Int) + 1 := by omega
      simp only [Nat.add_zero]
      have HB2 : Blk w.drew g 31 (cur.toList.take (i * 3) ++ rowOf (l.drop (i + 1)) ++ cur.toList.drop (i * 3 + (rowOf (l.drop (i + 1))).length)).toArray := by
        have e : l.drop (i + 1) = [] := List.drop_eq_nil_of_le (by rw [HN.out]; omega)
        rw [e]
        have e2 : (cur.toList.take (i * 3) ++ rowOf [] ++ cur.toList.drop (i * 3 + (rowOf []).length)).toArray = cur := by simp [rowOf]
        rw [e2]
        exact HG.out
      replace HB2 := Lib.hid HB2
      go_enter Try.func49, Try.ntmps49
      go_wp2_with fail
      go_region_held3 (fun _ => True) (trivial) (first | fail)
      have HM2 : Mod (fun k => k = g) w.drew w.drew := Mod.refl _ _
      go_wp2_with (refine gate none rfl ?_; refine wpList_clear rfl (.tmp 31) 75 rfl 31 _ 3 Try.underlying75 run_zero31 rfl (by simp [Value.cells, Value.oneCell']) g ((i + 0) * 3) _ _ ?_ _ HB2.out rfl ?_ ?_; omega; (have := HCS.out; have := HN.out; simp [rowOf_length]; omega); intro cur3 hcur3 htk3 w3 HB3 HM3)
      go_ret
      exact delete_end l i 0 (i + 1) g cur cur3 w w.drew w3 HN.out HTK.out HCS.out (by omega) HCM.out HB3 HM2 HM3 hcur3 htk3
    · replace HR := Lib.hid (HR.out (some ⟨g, (i + 1) * 3, none⟩) (fun _ => rfl))
      go_enter Try.func49, Try.ntmps49
      go_wp2_with fail
      go_region_held3 (fun _ => True) (trivial)
        (first | (refine step_append_in rfl (.tmp 22) (.tmp 25) 75 rfl 31 i0 3 Try.underlying75 hi0 hz1 g i cap cur HG.out rfl (fun k => k = g) ⟨g, (i + 1) * 3, none⟩ m (cap - (i + 1)) (rowOf (l.drop (i + 1))) rfl ?_ (by omega) (rowOf_one _) ?_ ?_ ?_; (exact HR.out); omega; (have := HCS.out; omega); intro w2 HB2 HM2))
      go_wp2_with (refine gate none rfl ?_; refine wpList_clear rfl (.tmp 31) 75 rfl 31 _ 3 Try.underlying75 run_zero31 rfl (by simp [Value.cells, Value.oneCell']) g ((i + m) * 3) _ _ ?_ _ HB2 rfl ?_ ?_; omega; (have := HCS.out; have := HN.out; simp [rowOf_length]; omega); intro cur3 hcur3 htk3 w3 HB3 HM3)
      go_ret
      exact delete_end l i m cap g cur cur3 w w2 w3 HN.out HTK.out HCS.out (by omega) HCM.out HB3 HM2 HM3 hcur3 htk3
end Go.Proofs.Ytdnbbjhickjnmaa
