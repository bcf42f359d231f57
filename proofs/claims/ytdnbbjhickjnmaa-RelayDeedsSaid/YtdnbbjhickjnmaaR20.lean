/- The reference's relay: Take where there is none. -/
import Derived.Test.YtdnbbjhickjnmaaR19
namespace Go.Proofs.Ytdnbbjhickjnmaa
open Go.RowKit
set_option maxRecDepth 20000
set_option linter.unusedVariables false
set_option linter.unusedSimpArgs false

theorem reftake_err (p : Nat) (n : Int) (w : World) (hn : nodeB n = false) :
    Calls Try.prog 18 #[.pointer (some ⟨p, 0, none⟩), .int .i64 n] w fun e w' => e = .returned (.tuple #[.agg #[.int .i64 0, .int .i64 0, .slice none 0 0], .int .i64 220]) ∧ Below w.heap.size w w' := by
  have HN := Lib.hid hn
  clear hn
  go_enter Try.func18, Try.ntmps18
  go_wp2_with (go_at_call 50; refine (refnode_any n _).mono ?_; rintro e w' ⟨rfl, rfl⟩; rw [HN.out])
  obtain ⟨x0, x1, x2, _⟩ := blk3 ((Blk.new w 31 #[.int .i64 0, .int .i64 0, .slice none 0 0]).set3 (.int .i64 0) (.int .i64 0) (.slice none 0 0))
  refine bodyPost_ret (v := .tuple #[.agg #[.int .i64 0, .int .i64 0, .slice none 0 0], .int .i64 220]) (by simp [results, Try.results18, go_sem, x0, x1, x2]) rfl ⟨rfl, ?_⟩
  first | exact Bs (Bs (Bs (Ba (B0 w) _) (by simp) _) (by simp) _) (by simp) _ | exact Ba (B0 w) _

theorem cnt_zero {ds : List Dg} {n : Int} (h : cntF ds n = 0) (k : Nat) (hk : k < ds.length) : (ds[k].t == n) = false := by
  have h2 : ds.filter (fun d => d.t == n) = [] := List.eq_nil_of_length_eq_zero h
  have := List.filter_eq_nil_iff.1 h2 ds[k] (List.getElem_mem hk)
  simpa using this

set_option maxHeartbeats 1000000 in
theorem reftake_none (S : Nat → Prop) (p : Nat) (ds : List Dg) (n : Int) (w : World) (h : RrAt w S p ds) (hmost : ds.length ≤ 4096) (hn : nodeB n = true) (h0 : cntF ds n = 0) :
    Calls Try.prog 18 #[.pointer (some ⟨p, 0, none⟩), .int .i64 n] w fun e w' => e = .returned (.tuple #[.agg #[.int .i64 0, .int .i64 0, .slice none 0 0], .int .i64 240]) ∧ Below w.heap.size w w' := by
  obtain ⟨h1, h2, l, sl, T, h3, h4, h5, h6, h7, h8⟩ := h
  obtain ⟨A, c, rfl⟩ := own_slice h5
  have hll : l.length = ds.length := by rw [← h3]; simp
  have HB := Lib.hid h4
  have HO := Lib.hid h5
  have H3 := Lib.hid h3
  have H0 := Lib.hid h0
  have HN := Lib.hid hn
  rw [hll] at HB HO
  have hl0 : (0 : Int) ≤ (ds.length : Int) := by omega
  have hl1 : (ds.length : Int) ≤ 4096 := by omega
  clear h1 h2 h3 h4 h5 h6 h7 h8 hn h0 hmost
  go_enter Try.func18, Try.ntmps18
  go_wp2_with (go_at_call 50; refine (refnode_any n _).mono ?_; rintro e w' ⟨rfl, rfl⟩; rw [HN.out])
  go_loopw [6] (fun i wr => ∃ k : Nat, k ≤ ds.length ∧ i = .int .i64 k ∧ Below w.heap.size w wr ∧ Blk wr w.heap.size 31 #[.int .i64 0, .int .i64 0, .slice none 0 0]) (fun i _ => ds.length - (intOf i).toNat)
  case atStart => exact ⟨0, Nat.zero_le _, rfl, Ba (B0 w) _, Blk.new w 31 _⟩
  case round =>
    obtain ⟨k, hk, rfl, hb, hr⟩ := hrel
    obtain ⟨q0, _⟩ := blk1 (HB.out.later hb)
    have HOr := Lib.hid (own_below HO.out hb)
    have HBr := Lib.hid (And.intro hb hr)
    obtain ⟨r0, r1, r2, s0, s1, s2⟩ := blk3 hr
    clear hb hr
    by_cases hlt : k < ds.length
    · have hkl : k < l.length := by omega
      obtain ⟨g, cc, hv, _⟩ := HOr.out.form (by omega)
      injection hv with hv1 hv2 hv3
      subst hv1
      have hdk : ds[k].t = l[k].t := by
        have := H3.out
        subst this
        simp [Item.dg]
      have d1 : wr.cell? ⟨g, k * 3 + 1, none⟩ = some (.int .i64 ds[k].t) := by
        rw [hdk]
        exact (HOr.out.cellAt (k * 3 + 1) (by omega)).trans (rowOf_at l k hkl 1 (by omega))
      have hz := cnt_zero H0.out k hlt
      have hlt' : (k : Int) < (ds.length : Int) := by omega
      have hk0 : (0 : Int) ≤ (k : Int) := by omega
      clear hv2 hv3 hdk
      generalize ds[k].t = dt at d1 hz
      go_wp2
      go_roundw
      case rel => exact ⟨k + 1, by omega, by go_num, HBr.out.1, HBr.out.2⟩
      case measure => simp [intOf]; omega
    · obtain rfl : k = ds.length := by omega
      go_wp2_with fail
      obtain ⟨x0, x1, x2, _⟩ := blk3 (HBr.out.2.set3 (.int .i64 0) (.int .i64 0) (.slice none 0 0))
      refine bodyPost_ret (v := .tuple #[.agg #[.int .i64 0, .int .i64 0, .slice none 0 0], .int .i64 240]) (by simp [results, Try.results18, go_sem, x0, x1, x2]) rfl ⟨rfl, ?_⟩
      exact Bs (Bs (Bs HBr.out.1 (Nat.le_refl _) _) (Nat.le_refl _) _) (Nat.le_refl _) _
end Go.Proofs.Ytdnbbjhickjnmaa
