/- The reference's relay: Take where there is one. -/
import Derived.Test.YtdnbbjhickjnmaaR21
namespace Go.Proofs.Ytdnbbjhickjnmaa
open Go.RowKit
set_option maxRecDepth 20000
set_option linter.unusedVariables false
set_option linter.unusedSimpArgs false

/-- What the reference's Take does where there is one. -/
def RTakOut (p i : Nat) (l : List Item) (hi : i < l.length) (w : World) (e : Ending) (w' : World) : Prop :=
  e = .returned (.tuple #[.agg #[.int .i64 l[i].f, .int .i64 l[i].t, .slice l[i].A l[i].bs.length l[i].c], .int .i64 0]) ∧
    ∃ v3 W3, Below w.heap.size w W3 ∧ W3.ownsRow 0 31 3 v3 (l.length - 1) (rowOf (l.eraseIdx i)) ∧ (∀ k, v3.ownBlock = some k → w.heap.size < k) ∧ Mod (fun k => k = w.heap.size) (W3.setCell ⟨p, 0, none⟩ v3) w'

set_option maxHeartbeats 4000000 in
theorem reftake_ok (p : Nat) (i : Nat) (n : Int) (l : List Item) (A : Option Addr) (c : Nat) (w : World) (hi : i < l.length) (hmost : l.length ≤ 4096) (hn : nodeB n = true) (h4 : Blk w p 83 #[.slice A l.length c]) (h5 : w.ownsRow 0 31 3 (.slice A l.length c) l.length (rowOf l))
    (hat : l[i].t = n) (hbefore : ∀ k (hk : k < l.length), k < i → (l[k].t == n) = false) :
    Calls Try.prog 18 #[.pointer (some ⟨p, 0, none⟩), .int .i64 n] w (RTakOut p i l hi w) := by
  obtain ⟨i0, hi0, hz0, hz1, hz2⟩ := info_parts info31
  obtain ⟨g, cc, hv, _⟩ := h5.form (by omega)
  injection hv with hv1 hv2 hv3
  subst hv1
  clear hv2 hv3
  have HB := Lib.hid h4
  have HO := Lib.hid h5
  have HN := Lib.hid hn
  have HX := Lib.hid (And.intro hat hbefore)
  have lp := h4.lt
  have hl0 : (0 : Int) ≤ (l.length : Int) := by omega
  have hl1 : (l.length : Int) ≤ 4096 := by omega
  clear h4 h5 hn hat hbefore
  go_enter Try.func18, Try.ntmps18
  go_wp2_with (go_at_call 50; refine (refnode_any n _).mono ?_; rintro e w' ⟨rfl, rfl⟩; rw [HN.out])
  go_loopw [6] (fun v wr => ∃ k : Nat, k ≤ i ∧ v = .int .i64 k ∧ wr = w.alloc (.cells #[.int .i64 0, .int .i64 0, .slice none 0 0] 31)) (fun v _ => l.length - (intOf v).toNat)
  case atStart => exact ⟨0, Nat.zero_le _, rfl, rfl⟩
  case round =>
    obtain ⟨k, hk, rfl, hwr⟩ := hrel
    have hb : Below w.heap.size w wr := hwr ▸ Ba (B0 w) _
    obtain ⟨q0, _⟩ := blk1 (HB.out.later hb)
    have HOr := Lib.hid (own_below HO.out hb)
    have hkl : k < l.length := by omega
    have d0 : wr.cell? ⟨g, k * 3, none⟩ = some (.int .i64 l[k].f) := (HOr.out.cellAt (k * 3) (by omega)).trans (rowOf_at l k hkl 0 (by omega))
    have d1 : wr.cell? ⟨g, k * 3 + 1, none⟩ = some (.int .i64 l[k].t) := (HOr.out.cellAt (k * 3 + 1) (by omega)).trans (rowOf_at l k hkl 1 (by omega))
    have d2 : wr.cell? ⟨g, k * 3 + 2, none⟩ = some (.slice l[k].A l[k].bs.length l[k].c) := (HOr.out.cellAt (k * 3 + 2) (by omega)).trans (rowOf_at l k hkl 2 (by omega))
    have hlt' : (k : Int) < (l.length : Int) := by omega
    have hk0 : (0 : Int) ≤ (k : Int) := by omega
    have HWR := Lib.hid hwr
    have HBB := Lib.hid hb
    have lpr : p < wr.heap.size := Nat.lt_of_lt_of_le lp hb.size
    clear hwr hb
    by_cases hki : k < i
    · have hne := HX.out.2 k hkl hki
      go_wp2
      go_roundw
      case rel => exact ⟨k + 1, by omega, by go_num, HWR.out⟩
      case measure => simp [intOf]; omega
    · obtain rfl : k = i := by omega
      have heq : (l[k].t == n) = true := by simp [HX.out.1]
      have hlc : l.length ≤ c := (Rd.of_own HO.out).cap.2.1
      have hkc : (k : Int) ≤ (c : Int) := by omega
      have hlc' : (l.length : Int) ≤ (c : Int) := by omega
      have hk1 : (k : Int) + 1 ≤ (l.length : Int) := by omega
      have HEX : Hid (rowOf (l.take k) ++ rowOf (l.drop (k + 1)) = rowOf (l.eraseIdx k)) := Lib.hid (by rw [← rowOf_append, ← List.eraseIdx_eq_take_drop_succ])
      have hres : Blk wr w.heap.size 31 #[.int .i64 0, .int .i64 0, .slice none 0 0] := HWR.out ▸ Blk.new w 31 _
      have lres := hres.lt
      have HRES := Lib.hid hres
      clear hres
      by_cases hc1 : c = k + 1
      · subst hc1
        have HLL : Hid (l.length = k + 1) := Lib.hid (by omega)
        go_wp2_with (first
          | (at_builtin; refine gate (some 46) rfl ?_; refine wpList_append_rd _ rfl (.tmp 39) (.tmp 45) 75 rfl 0 31 i0 (.agg #[.int .i64 0, .int .i64 0, .slice none 0 0]) 3 40 Try.underlying75 hi0 hz0 hz1 hz2 rfl (by omega) (.slice none 0 0) 0 [] rfl (World.ownsRow_nil _ _ _ _) (fun j => (Value.slice (some ⟨g, 0, none⟩) l.length (k + 1)).ownBlock = some j) (.slice (some ⟨g, 0, none⟩) k (k + 1)) k (rowOf (l.take k)) rfl (own_head (own_below HOr.out (Ba (B0 wr) _)) k (by omega)) (rowOf_one _) (by simp only [maxLen]; omega) (by omega) (Nat.zero_le _) ?_; intro v2 w2 HA; obtain ⟨A2, c2, rfl⟩ := own_slice HA.own; have hb2 := ((Ba (B0 wr) (.cells #[.int .i64 l[k].f, .int .i64 l[k].t, .slice l[k].A l[k].bs.length l[k].c] 31)).grown HA.grown (Nat.le_of_lt (by simp)) (by simp [Value.ownBlock])); have hbq := (HB.out.later HBB.out).later hb2; obtain ⟨q2, z2⟩ := blk1 hbq; have HAO := Lib.hid (show w2.ownsRow 0 31 3 (.slice A2 k c2) k (rowOf (l.take k)) by simpa using HA.own); have HAT := Lib.hid (show (Value.slice A2 k c2).ownBlock = none ∨ (Value.slice A2 k c2).ownBlock = some (wr.heap.size + 1) by simpa [Value.ownBlock] using HA.at_); have HB2 := Lib.hid hb2; have HBQ := Lib.hid hbq; have HOT := Lib.hid (own_below HOr.out hb2); have hnw := (Blk.new wr 31 #[.int .i64 l[k].f, .int .i64 l[k].t, .slice l[k].A l[k].bs.length l[k].c]).later (Below.grown (B0 _) HA.grown (Nat.le_refl _) (by simp [Value.ownBlock])); have HNW := Lib.hid hnw; have lnw := hnw.lt; clear hb2 hbq HA hnw)
          | (at_builtin; refine gate (some 56) rfl ?_; refine wpList_append_rd _ rfl (.tmp 48) (.tmp 55) 75 rfl 0 31 i0 (.agg #[.int .i64 0, .int .i64 0, .slice none 0 0]) 3 40 Try.underlying75 hi0 hz0 hz1 hz2 rfl (by omega) (.slice A2 k c2) k (rowOf (l.take k)) rfl HAO.out (fun j => j = g) (.slice (some ⟨g, 0, none⟩) 0 0) (0) ([]) rfl (⟨rfl, _, 0, rfl, Nat.le_refl _, Nat.zero_le _, fun h => absurd h (by omega)⟩) (by simp) (by simp only [maxLen]; omega) (by omega) (Nat.zero_le _) ?_; intro v3 w3 HA; obtain ⟨A3, c3, rfl⟩ := own_slice HA.own; have hm3 := ((Mod.refl (fun j => (Value.slice A2 k c2).ownBlock = some j) w2).grown HA.grown (fun j hj => .inl hj)); have hp3 := HBQ.out.kept hm3 (own_ne_blk HAO.out HBQ.out (show (31 : TypeId) ≠ 83 by decide)); have HP3 := Lib.hid hp3; obtain ⟨q3, z3⟩ := blk1 hp3; have hk3 := HNW.out.kept hm3 (by rcases HAT.out with e | e <;> rw [e] <;> simp); obtain ⟨m0, m1, m2, y0, y1, y2⟩ := blk3 hk3; have hr3 := (HRES.out.later HB2.out).kept hm3 (by rcases HAT.out with e | e <;> rw [e] <;> simp; omega); obtain ⟨r0, r1, r2, s0, s1, s2⟩ := blk3 hr3; have HR3 := Lib.hid hr3; have HM3 := Lib.hid hm3; have HAA := Lib.hid HA; clear hm3 hp3 HA hk3 hr3))
        obtain ⟨x0, x1, x2, _⟩ := blk3 ((HR3.out.far (p := ⟨p, 0, none⟩) (by simp; omega) (.slice A3 k c3)).set3 (.int .i64 l[k].f) (.int .i64 l[k].t) (.slice l[k].A l[k].bs.length l[k].c))
        refine bodyPost_ret (v := .tuple #[.agg #[.int .i64 l[k].f, .int .i64 l[k].t, .slice l[k].A l[k].bs.length l[k].c], .int .i64 0]) (by simp [results, Try.results18, go_sem, x0, x1, x2]) rfl ?_
        refine ⟨rfl, .slice A3 k c3, w3, Bm (Bt HBB.out HB2.out) HM3.out ?_, ?_, ?_, ?_⟩
        · intro i hi2
          rcases HAT.out with e | e
          · rw [e] at hi2; cases hi2
          · rw [e] at hi2; injection hi2 with hi2; omega
        · have h := HAA.out.own
          simp only [Nat.add_zero] at h
          have e : rowOf (l.take k) ++ [] = rowOf (l.eraseIdx k) := by rw [← HEX.out, List.drop_eq_nil_of_le (by have := HLL.out; omega)]; rfl
          rw [e] at h
          have e2 : l.length - 1 = k := by have := HLL.out; omega
          rw [e2]
          exact h
        · intro i hi2
          have h2 := HAA.out.at_
          simp only [Nat.add_zero] at h2
          simp only [Value.ownBlock] at h2 hi2
          have h3 := HAT.out
          simp only [Value.ownBlock] at h3
          rcases h2 with e | e
          · rw [← e] at h3
            rcases h3 with h3 | h3
            · rw [h3] at hi2; cases hi2
            · rw [h3] at hi2; injection hi2 with hi2; omega
          · rw [e] at hi2; injection hi2 with hi2; omega
        · exact (((Mod.refl (fun j => j = w.heap.size) _).setCell (p := ⟨w.heap.size, 0, none⟩) (.inl rfl) _).setCell (p := ⟨w.heap.size, 1, none⟩) (.inl rfl) _).setCell (p := ⟨w.heap.size, 2, none⟩) (.inl rfl) _
      · have hc2 : ((c : Int) == (k : Int) + 1) = false := by rw [beq_eq_false_iff_ne]; omega
        go_wp2_with (first
          | (at_builtin; refine gate (some 46) rfl ?_; refine wpList_append_rd _ rfl (.tmp 39) (.tmp 45) 75 rfl 0 31 i0 (.agg #[.int .i64 0, .int .i64 0, .slice none 0 0]) 3 40 Try.underlying75 hi0 hz0 hz1 hz2 rfl (by omega) (.slice none 0 0) 0 [] rfl (World.ownsRow_nil _ _ _ _) (fun j => (Value.slice (some ⟨g, 0, none⟩) l.length c).ownBlock = some j) (.slice (some ⟨g, 0, none⟩) k c) k (rowOf (l.take k)) rfl (own_head (own_below HOr.out (Ba (B0 wr) _)) k (by omega)) (rowOf_one _) (by simp only [maxLen]; omega) (by omega) (Nat.zero_le _) ?_; intro v2 w2 HA; obtain ⟨A2, c2, rfl⟩ := own_slice HA.own; have hb2 := ((Ba (B0 wr) (.cells #[.int .i64 l[k].f, .int .i64 l[k].t, .slice l[k].A l[k].bs.length l[k].c] 31)).grown HA.grown (Nat.le_of_lt (by simp)) (by simp [Value.ownBlock])); have hbq := (HB.out.later HBB.out).later hb2; obtain ⟨q2, z2⟩ := blk1 hbq; have HAO := Lib.hid (show w2.ownsRow 0 31 3 (.slice A2 k c2) k (rowOf (l.take k)) by simpa using HA.own); have HAT := Lib.hid (show (Value.slice A2 k c2).ownBlock = none ∨ (Value.slice A2 k c2).ownBlock = some (wr.heap.size + 1) by simpa [Value.ownBlock] using HA.at_); have HB2 := Lib.hid hb2; have HBQ := Lib.hid hbq; have HOT := Lib.hid (own_below HOr.out hb2); have hnw := (Blk.new wr 31 #[.int .i64 l[k].f, .int .i64 l[k].t, .slice l[k].A l[k].bs.length l[k].c]).later (Below.grown (B0 _) HA.grown (Nat.le_refl _) (by simp [Value.ownBlock])); have HNW := Lib.hid hnw; have lnw := hnw.lt; clear hb2 hbq HA hnw)
          | (at_builtin; refine gate (some 56) rfl ?_; refine wpList_append_rd _ rfl (.tmp 48) (.tmp 55) 75 rfl 0 31 i0 (.agg #[.int .i64 0, .int .i64 0, .slice none 0 0]) 3 40 Try.underlying75 hi0 hz0 hz1 hz2 rfl (by omega) (.slice A2 k c2) k (rowOf (l.take k)) rfl HAO.out (fun j => j = g) (.slice (some ⟨g, (k + 1) * 3, none⟩) (l.length - (k + 1)) (c - (k + 1))) (l.length - (k + 1)) (rowOf (l.drop (k + 1))) rfl (own_tail HOT.out (k + 1) (by omega) (some ⟨g, (k + 1) * 3, none⟩) (fun _ => rfl)) (rowOf_one _) (by simp only [maxLen]; omega) (by omega) (Nat.zero_le _) ?_; intro v3 w3 HA; obtain ⟨A3, c3, rfl⟩ := own_slice HA.own; have hm3 := ((Mod.refl (fun j => (Value.slice A2 k c2).ownBlock = some j) w2).grown HA.grown (fun j hj => .inl hj)); have hp3 := HBQ.out.kept hm3 (own_ne_blk HAO.out HBQ.out (show (31 : TypeId) ≠ 83 by decide)); have HP3 := Lib.hid hp3; obtain ⟨q3, z3⟩ := blk1 hp3; have hk3 := HNW.out.kept hm3 (by rcases HAT.out with e | e <;> rw [e] <;> simp); obtain ⟨m0, m1, m2, y0, y1, y2⟩ := blk3 hk3; have hr3 := (HRES.out.later HB2.out).kept hm3 (by rcases HAT.out with e | e <;> rw [e] <;> simp; omega); obtain ⟨r0, r1, r2, s0, s1, s2⟩ := blk3 hr3; have HR3 := Lib.hid hr3; have HM3 := Lib.hid hm3; have HAA := Lib.hid HA; clear hm3 hp3 HA hk3 hr3))
        obtain ⟨x0, x1, x2, _⟩ := blk3 ((HR3.out.far (p := ⟨p, 0, none⟩) (by simp; omega) (.slice A3 (k + (l.length - (k + 1))) c3)).set3 (.int .i64 l[k].f) (.int .i64 l[k].t) (.slice l[k].A l[k].bs.length l[k].c))
        refine bodyPost_ret (v := .tuple #[.agg #[.int .i64 l[k].f, .int .i64 l[k].t, .slice l[k].A l[k].bs.length l[k].c], .int .i64 0]) (by simp [results, Try.results18, go_sem, x0, x1, x2]) rfl ?_
        refine ⟨rfl, .slice A3 (k + (l.length - (k + 1))) c3, w3, Bm (Bt HBB.out HB2.out) HM3.out ?_, ?_, ?_, ?_⟩
        · intro i hi2
          rcases HAT.out with e | e
          · rw [e] at hi2; cases hi2
          · rw [e] at hi2; injection hi2 with hi2; omega
        · have h := HAA.out.own
          rw [HEX.out] at h
          have e2 : l.length - 1 = k + (l.length - (k + 1)) := by omega
          rw [e2]
          exact h
        · intro i hi2
          have h2 := HAA.out.at_
          simp only [Value.ownBlock] at h2 hi2
          have h3 := HAT.out
          simp only [Value.ownBlock] at h3
          rcases h2 with e | e
          · rw [← e] at h3
            rcases h3 with h3 | h3
            · rw [h3] at hi2; cases hi2
            · rw [h3] at hi2; injection hi2 with hi2; omega
          · rw [e] at hi2; injection hi2 with hi2; omega
        · exact (((Mod.refl (fun j => j = w.heap.size) _).setCell (p := ⟨w.heap.size, 0, none⟩) (.inl rfl) _).setCell (p := ⟨w.heap.size, 1, none⟩) (.inl rfl) _).setCell (p := ⟨w.heap.size, 2, none⟩) (.inl rfl) _
end Go.Proofs.Ytdnbbjhickjnmaa
