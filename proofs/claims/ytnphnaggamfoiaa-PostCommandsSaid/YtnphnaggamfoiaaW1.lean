/- Walks: of, value, the two noneS, Clone. -/
import Derived.Test.YtnphnaggamfoiaaP1
namespace Go.Proofs.Ytnphnaggamfoiaa.Wr
open Go.RowKit
set_option linter.unusedVariables false
set_option maxRecDepth 20000
set_option linter.unusedSimpArgs false

theorem be8 (v : Int) : be 8 v = [v / 72057594037927936 % 256, v / 281474976710656 % 256, v / 1099511627776 % 256, v / 4294967296 % 256, v / 16777216 % 256, v / 65536 % 256, v / 256 % 256, v % 256] := by
  simp only [be, Int.ediv_ediv_of_nonneg (show (0 : Int) ≤ 256 by omega), List.nil_append, List.cons_append]
  simp [Int.ediv_ediv_of_nonneg]

theorem of_any (v : Int) (w : World) : Calls Try.prog 78 #[.int .i64 v] w fun e w' => e = .returned (.agg (bts (be 8 v)).toArray) ∧ Below w.heap.size w w' := by
  go_enter Try.func78, Try.ntmps78
  go_wp2
  go_rounds 9
  go_wp2
  obtain ⟨V, hV⟩ : ∃ V, V = (bts (be 8 v)).toArray := ⟨_, rfl⟩
  refine bodyPost_ret (v := .agg V) ?_ rfl ⟨by rw [hV], Ba (B0 w) _⟩
  rw [hV, be8]
  simp [results, Try.results78, go_sem, bts]

theorem used_any (c : Int) (w : World) : Calls Try.prog 79 #[.int .u8 c] w fun e w' => e = .returned (.bool (c != 0)) ∧ w = w' := by
  go_enter Try.func79, Try.ntmps79
  go_wp2
  go_ret
  exact ⟨rfl, rfl⟩

theorem wnone_any (p s : Nat) (w : World) (h : Blk w p 98 #[.pointer (some ⟨s, 0, none⟩)]) : Calls Try.prog 68 #[.pointer (some ⟨p, 0, none⟩)] w fun e w' => e = .returned (.bool false) ∧ w = w' := by
  obtain ⟨x0, _⟩ := blk1 h
  go_enter Try.func68, Try.ntmps68
  go_wp2
  go_ret
  exact ⟨rfl, rfl⟩
theorem rnone_any (p s : Nat) (w : World) (h : Blk w p 105 #[.pointer (some ⟨s, 0, none⟩)]) : Calls Try.prog 72 #[.pointer (some ⟨p, 0, none⟩)] w fun e w' => e = .returned (.bool false) ∧ w = w' := by
  obtain ⟨x0, _⟩ := blk1 h
  go_enter Try.func72, Try.ntmps72
  go_wp2
  go_ret
  exact ⟨rfl, rfl⟩

def idxF (xs : List Int) : Int := match xs.findIdx? (fun c => c != 0) with | some i => i | none => -1

theorem idxF_cons_zero (xs : List Int) (k : Nat) (hk : k < xs.length) (h : ∀ j (hj : j < xs.length), j < k → xs[j] = 0) (hn : xs[k] ≠ 0) : idxF xs = k := by
  have : xs.findIdx? (fun c => c != 0) = some k := by
    rw [List.findIdx?_eq_some_iff_getElem]
    exact ⟨hk, by simpa using hn, fun j hj => by simpa using h j (by omega) hj⟩
  simp [idxF, this]
theorem idxF_none (xs : List Int) (h : ∀ j (hj : j < xs.length), xs[j] = 0) : idxF xs = -1 := by
  have : xs.findIdx? (fun c => c != 0) = none := by
    rw [List.findIdx?_eq_none_iff]
    intro x hx
    obtain ⟨j, hj, rfl⟩ := List.getElem_of_mem hx
    simp [h j hj]
  simp [idxF, this]

theorem index_any (S : Nat → Prop) (v1 : Value) (xs : List Int) (w : World) (h1 : Rd w S 1 v1 xs.length (bts xs)) :
    Calls Try.prog 84 #[v1, .func (.func 79) #[] #[]] w fun e w' => e = .returned (.int .i64 (idxF xs)) ∧ w = w' := by
  obtain ⟨_, A1, c1, rfl, hn1, hm1, hc1⟩ := h1
  unfold maxLen at hm1
  have HC1 := Lib.hid hc1
  clear hc1
  go_enter Try.func84, Try.ntmps84
  go_wp2
  go_loopw [8] (fun i wr => ∃ k : Nat, k ≤ xs.length ∧ i = .int .i64 k ∧ w = wr ∧ ∀ j (hj : j < xs.length), j < k → xs[j] = 0) (fun i _ => xs.length - (intOf i).toNat)
  case atStart => exact ⟨0, Nat.zero_le _, rfl, rfl, fun j _ h => absurd h (by omega)⟩
  case round =>
    obtain ⟨k, hk, rfl, rfl, htk⟩ := hrel
    have HT := Lib.hid htk
    clear htk
    by_cases hlt : k < xs.length
    · obtain ⟨g1, o1, rfl, _, hc⟩ := HC1.out (by omega)
      have e1 : w.cell? ⟨g1, o1 + k, none⟩ = some (.int .u8 xs[k]) := hc k _ (bts_getElem? xs k hlt)
      have HC := Lib.hid hc
      clear hc
      by_cases hz : xs[k] = 0
      · have hb : (xs[k] != 0) = false := by simp [hz]
        have HZ := Lib.hid hz
        clear hz
        go_wp2_with fail
        refine (used_any _ w).mono ?_
        rintro e w' ⟨rfl, rfl⟩
        go_wp2_with fail
        go_roundw
        case rel => exact ⟨k + 1, by omega, by go_num, by trivial, fun j hj hjk => (Nat.lt_or_ge j k).elim (fun h => HT.out j hj h) (fun h => by obtain rfl : j = k := (by omega); exact HZ.out)⟩
        case measure => simp [intOf]; omega
      · have hb : (xs[k] != 0) = true := by simp [hz]
        have HZ := Lib.hid hz
        clear hz
        go_wp2_with fail
        refine (used_any _ w).mono ?_
        rintro e w' ⟨rfl, rfl⟩
        go_wp2_with fail
        go_ret
        exact ⟨ret_int (idxF_cons_zero xs k hlt HT.out HZ.out).symm, rfl⟩
    · go_wp2_with fail
      go_ret
      exact ⟨ret_int (idxF_none xs (fun j hj => HT.out j hj (by omega))).symm, rfl⟩

theorem idxF_ge (xs : List Int) : (-1 : Int) ≤ idxF xs ∧ idxF xs < xs.length := by
  unfold idxF
  split
  · rename_i i h
    have := (List.findIdx?_eq_some_iff_getElem.1 h).1
    omega
  · omega
theorem idxF_iff (xs : List Int) : (idxF xs ≥ 0) ↔ ∃ x ∈ xs, x ≠ 0 := by
  unfold idxF
  split
  · rename_i i h
    obtain ⟨h1, h2, _⟩ := List.findIdx?_eq_some_iff_getElem.1 h
    exact ⟨fun _ => ⟨xs[i], List.getElem_mem h1, by simpa using h2⟩, fun _ => by omega⟩
  · rename_i h
    rw [List.findIdx?_eq_none_iff] at h
    exact ⟨fun h => by omega, fun ⟨x, hx, hn⟩ => absurd (by simpa using h x hx) hn⟩

theorem contains_any (S : Nat → Prop) (v1 : Value) (xs : List Int) (w : World) (h1 : Rd w S 1 v1 xs.length (bts xs)) :
    Calls Try.prog 80 #[v1, .func (.func 79) #[] #[]] w fun e w' => e = .returned (.bool (decide (idxF xs ≥ 0))) ∧ w = w' := by
  have hi := idxF_ge xs
  go_enter Try.func80, Try.ntmps80
  go_wp2_with (go_at_call 84; refine (index_any S _ xs w h1).mono ?_; rintro e w' ⟨rfl, rfl⟩)
  go_ret
  exact ⟨rfl, rfl⟩

end Go.Proofs.Ytnphnaggamfoiaa.Wr
