/- The reference's writer: Out. -/
import Derived.Test.YtdnbbjhickjnmaaU5
namespace Go.Proofs.Ytdnbbjhickjnmaa.Wr
open Go.RowKit
set_option maxRecDepth 20000
set_option linter.unusedVariables false
set_option maxRecDepth 20000
set_option linter.unusedSimpArgs false

theorem flat_take (l : List Pc) (k : Nat) (h : k < l.length) : flat (l.take (k + 1)) = flat (l.take k) ++ l[k].bs := by
  unfold flat
  rw [List.take_succ_eq_append_getElem h, List.flatMap_append]
  simp
theorem flat_le (l : List Pc) (k : Nat) : (flat (l.take k)).length ≤ (flat l).length := by
  have h : flat l = flat (l.take k) ++ flat (l.drop k) := by
    conv => lhs; rw [← List.take_append_drop k l]
    simp only [flat, List.flatMap_append]
  rw [h]; simp

theorem uout_any (S : Nat → Prop) (p : Nat) (xs : List Int) (n : Nat) (w : World) (h : RwAt w S p xs n) (hn : n ≤ 4096) (hxl : xs.length ≤ 140737488355328) :
    Calls Try.prog 61 #[.pointer (some ⟨p, 0, none⟩)] w fun e w' => ∃ A c, e = .returned (.slice A xs.length c) ∧ Fresh w w' A c xs := by
  obtain ⟨i0, hi0, hz0, hz1, hz2⟩ := info_parts info5
  obtain ⟨h1, h2, l, sl, T, h3, h3', h4, h5, h6, h7, h8⟩ := h
  subst h3 h3'
  obtain ⟨As, cs, rfl⟩ := own_slice h5
  have lp := h4.lt
  have H4 := Lib.hid h4
  have H5 := Lib.hid (Rd.of_own h5)
  have HL5 := Lib.hid (own_lt h5)
  have H8 := Lib.hid (And.intro h2 (And.intro h7 h8))
  clear h1 h2 h4 h5 h6 h7 h8
  go_enter Try.func61, Try.ntmps61
  go_wp2_with fail
  go_loopw [3, 4] (fun o i wr => ∃ (k : Nat) (A' : Option Addr) (c' : Nat), k ≤ l.length ∧ i = .int .i64 k ∧ o = .slice A' (flat (l.take k)).length c' ∧ Below w.heap.size w wr ∧ wr.ownsRow w.heap.size 5 1 (.slice A' (flat (l.take k)).length c') (flat (l.take k)).length (bts (flat (l.take k)))) (fun _ i _ => l.length - (intOf i).toNat)
  case atStart => exact ⟨0, none, 0, by omega, rfl, rfl, B0 w, World.ownsRow_nil _ _ _ _⟩
  case round =>
    obtain ⟨k, A', c', hk, rfl, rfl, hbW, hown⟩ := hrel
    have HBW := Lib.hid hbW
    have HO := Lib.hid hown
    obtain ⟨x0, f0⟩ := blk1 (H4.out.below hbW lp)
    have lp1 : p < wr.heap.size := Nat.lt_of_lt_of_le lp hbW.size
    by_cases hlt : k < l.length
    · have hlt' : (k : Int) < (l.length : Int) := by omega
      obtain ⟨g, o, rfl, hg, hc⟩ := H5.out.some_ (by omega)
      have hgl := HL5.out g hg
      have c0 := (hbW.cell (p := ⟨g, o + k, none⟩) hgl).trans (hc k _ (by simp [pcsV, hlt]; rfl))
      have hst := flat_take l k hlt
      have hle := flat_le l (k + 1)
      have hxk := H8.out.2.2 l[k] (List.getElem_mem hlt)
      obtain ⟨x, hx⟩ : ∃ x, x = l[k] := ⟨_, rfl⟩
      rw [← hx] at c0 hst hxk
      obtain ⟨L, hL⟩ : ∃ L, L = flat (l.take k) := ⟨_, rfl⟩
      rw [hst, ← hL] at hle
      rw [← hL] at hst HO hown ⊢
      have hll : L.length + x.bs.length ≤ 140737488355328 := by rw [List.length_append] at hle; omega
      have HX := Lib.hid (show Rd wr T 1 (.slice x.A x.bs.length x.c) x.bs.length (bts x.bs) from hxk.below hbW (fun i hi => H8.out.1 i (H8.out.2.1 i hi).1))
      have HST := Lib.hid hst
      rw [show x.v = .slice x.A x.bs.length x.c from rfl] at c0
      clear hbW hown hc hst hle hxk hx hL
      go_wp2_with (at_builtin; refine wpList_append_rd _ rfl (.tmp 14) (.tmp 21) _ rfl w.heap.size 5 i0 _ 1 1 Try.underlying29 hi0 hz0 hz1 hz2 rfl (by omega) (.slice A' L.length c') L.length (bts L) rfl HO.out T (.slice x.A x.bs.length x.c) x.bs.length (bts x.bs) rfl HX.out (bts_one x.bs) (by simp only [maxLen]; omega) (by omega) HBW.out.size ?_; intro v2 w2 HA)
      obtain ⟨A2, c2, rfl⟩ := own_slice HA.own
      have HA' := Lib.hid HA
      clear HA
      go_wp2_with fail
      go_roundw
      case rel => exact ⟨k + 1, A2, c2, by omega, by go_num, congrArg (fun n => Value.slice A2 n c2) (by rw [HST.out, List.length_append]), HBW.out.grown HA'.out.grown HBW.out.size (fun k hk => own_ge HO.out k hk), by rw [HST.out, List.length_append, bts_append]; exact HA'.out.own⟩
      case measure => simp [intOf]; omega
    · obtain rfl : k = l.length := by omega
      have ht : flat (l.take l.length) = flat l := by rw [List.take_length]
      rw [ht] at HO hown ⊢
      clear hbW hown ht
      go_wp2_with fail
      go_ret
      exact ⟨A', c', rfl, HO.out, HBW.out⟩
end Go.Proofs.Ytdnbbjhickjnmaa.Wr
