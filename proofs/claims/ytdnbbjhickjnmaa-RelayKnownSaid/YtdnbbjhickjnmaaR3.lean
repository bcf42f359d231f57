/- Paths: Best. -/
import Derived.Test.YtdnbbjhickjnmaaR2
namespace Go.Proofs.Ytdnbbjhickjnmaa
open Go.RowKit
set_option maxRecDepth 20000
set_option linter.unusedVariables false
set_option linter.unusedSimpArgs false

def ltB (x y : Nat) : Bool := FloatKind.f64.format.order x y == some .lt
def sc (l : Pth) (k : Nat) : Nat := (l.getD k (0, false)).1
def bestAt (l : Pth) : Nat → Nat
  | 0 => 0
  | n + 1 => if ltB (sc l n) (sc l (bestAt l n)) then n else bestAt l n
def bestF (l : Pth) : Nat := bestAt l l.length
theorem bestAt_lt (l : Pth) (h : 0 < l.length) : ∀ n, n ≤ l.length → bestAt l n < l.length
  | 0, _ => h
  | n + 1, hn => by
    unfold bestAt
    split
    · omega
    · exact bestAt_lt l h n (by omega)
theorem sc_at (l : Pth) (k : Nat) (hk : k < l.length) : sc l k = l[k].1 := by simp [sc, List.getD_eq_getElem?_getD, hk]

set_option maxHeartbeats 1000000 in
theorem best_any (p g : Nat) (l : Pth) (w : World) (h : PathsAt w p g l) : Calls Try.prog 31 #[.pointer (some ⟨p, 0, none⟩)] w fun e w' => e = .returned (.int .i64 (bestF l)) ∧ Below w.heap.size w w' := by
  have H := Lib.hid h
  obtain ⟨q0, z0⟩ := blk1 h.1
  have hl := h.2.2.2
  have hl0 := h.2.2.1
  have lp := h.1.lt
  have lg := h.2.1.lt
  have hsf := store_float
  clear h
  go_enter Try.func31, Try.ntmps31
  go_wp2
  go_loopw [3, 14] (fun b i wr => ∃ k : Nat, k ≤ l.length ∧ b = .int .i64 (bestAt l k) ∧ i = .int .i64 k ∧ Below w.heap.size w wr) (fun _ i _ => l.length - (intOf i).toNat)
  case atStart => exact ⟨0, Nat.zero_le _, rfl, rfl, B0 w⟩
  case round =>
    obtain ⟨k, hk, rfl, rfl, hb⟩ := hrel
    have hbl := bestAt_lt l hl0 k hk
    have HP := Lib.hid (H.out.later hb)
    obtain ⟨p0, _⟩ := blk1 HP.out.1
    have lp' := HP.out.1.lt
    have lg' := HP.out.2.1.lt
    by_cases hlt : k < l.length
    · obtain ⟨d0, d1, _, _⟩ := HP.out.score k hlt
      obtain ⟨b0, _, _, _⟩ := HP.out.score (bestAt l k) hbl
      have i0 : (0 : Int) ≤ ((bestAt l k : Nat) : Int) := by omega
      have i1 : ((bestAt l k : Nat) : Int) < (l.length : Int) := by omega
      have i2 : (k : Int) < (l.length : Int) := by omega
      have e1 := sc_at l k hlt
      have e2 := sc_at l _ hbl
      rw [← e1] at d0
      rw [← e2] at b0
      obtain ⟨bn, hbn⟩ : ∃ bn, bn = bestAt l k := ⟨_, rfl⟩
      have hs : bestAt l (k + 1) = if ltB (sc l k) (sc l bn) then k else bn := by rw [hbn]; rfl
      rw [← hbn] at hbl b0 i0 i1 ⊢
      cases hc : ltB (sc l k) (sc l bn)
      · rw [hc] at hs
        have HS := Lib.hid hs
        have hc' : (FloatKind.f64.format.order (sc l k) (sc l bn) == some .lt) = false := hc
        clear hc hs e1 e2 hbn
        have HB := Lib.hid hb
        clear hb
        go_wp2
        go_quiet (fail)
        go_wp2
        go_roundw
        case rel => exact ⟨k + 1, by omega, by rw [HS.out]; rfl, by go_num, BdN (by first | exact Bs (Bs (Ba HB.out _) HB.out.size _) HB.out.size _ | exact Ba HB.out _) _⟩
        case measure => simp [intOf]; omega
      · rw [hc] at hs
        have HS := Lib.hid hs
        have hc' : (FloatKind.f64.format.order (sc l k) (sc l bn) == some .lt) = true := hc
        clear hc hs e1 e2 hbn
        have HB := Lib.hid hb
        clear hb
        go_wp2
        go_quiet (fail)
        go_wp2
        go_roundw
        case rel => exact ⟨k + 1, by omega, by rw [HS.out]; rfl, by go_num, BdN (by first | exact Bs (Bs (Ba HB.out _) HB.out.size _) HB.out.size _ | exact Ba HB.out _) _⟩
        case measure => simp [intOf]; omega
    · obtain rfl : k = l.length := by omega
      go_wp2
      go_ret
      exact ⟨rfl, hb⟩
end Go.Proofs.Ytdnbbjhickjnmaa
