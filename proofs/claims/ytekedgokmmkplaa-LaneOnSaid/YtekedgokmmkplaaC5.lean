/- The statement LaneOn: its walk. -/
import Derived.Test.YtekedgokmmkplaaC4
import Derived.WideShapes
import Derived.ProofKit
namespace Go.Proofs.Ytekedgokmmkplaa
open Go.RowKit Go.ChangeShapes Go.WideShapes
set_option linter.unusedVariables false
set_option linter.unusedSimpArgs false

theorem open_three {H : Type} {enc : TypeId × Value → H} {W : World} {base : Nat} {sp : Nat → Bool} {held : Bool} {v : Value} {d : DataW H} {p : List MemPlace} (hv : Value.okWide Try.prog W .any base 56 v) (ht : DataW.Trod enc Try.prog W 0 sp held 56 v d p) :
    ∃ a b c : Int, v = .agg #[.int .i64 a, .int .i64 b, .int .i64 c] := by
  simp only [Value.okWide, Try.underlying56] at hv
  obtain ⟨cs, rfl, hsz, _⟩ := hv
  have hC : Try.prog.cellsOf 56 = 3 := by kernel_rfl
  have hC3 : Try.prog.cellsOf 3 = 1 := by kernel_rfl
  obtain ⟨cs⟩ := cs
  rw [hC] at hsz
  match cs, hsz with
  | [c0, c1, c2], _ =>
    obtain ⟨fuel, hf⟩ := ht
    obtain ⟨xs, m, _, _, _, hl, hg⟩ := DataW.trod_array Try.underlying56 hf
    have g0 := hg 0 (by omega)
    have g1 := hg 1 (by omega)
    have g2 := hg 2 (by omega)
    simp [hC3, Value.cells] at g0 g1 g2
    match xs, hl with
    | [y0, y1, y2], _ =>
      obtain ⟨a, e0, _, _⟩ := DataW.trod_int Try.underlying3 g0
      obtain ⟨b, e1, _, _⟩ := DataW.trod_int Try.underlying3 g1
      obtain ⟨c, e2, _, _⟩ := DataW.trod_int Try.underlying3 g2
      simp at e0 e1 e2
      subst e0 e1 e2
      exact ⟨a, b, c, rfl⟩

theorem reach_trans (s a b c : Int) (ha : adr a = true) (hb : adr b = true) (hc : adr c = true) : reachF s a b = true → reachF s b c = true → reachF s a c = true := by
  simp only [reachF, ha, hb, hc, Bool.true_and, beq_iff_eq]
  intro h1 h2
  rw [h1, h2]
theorem reach_two (s a b c : Int) (ha : adr a = true) (hb : adr b = true) (hc : adr c = true) : reachF s a b = false → reachF s b c = false → reachF s a c = true := by
  simp only [reachF, ha, hb, hc, Bool.true_and]
  cases sideBit s a.toNat <;> cases sideBit s b.toNat <;> cases sideBit s c.toNat <;> simp

set_option maxHeartbeats 2000000 in
theorem laneOn_ints (W : World) (side : Int) (w0 : (Lit.int .i64 side).wf = true) (a0 b0 c0 : Int) :
    Calls Try.prog 9 #[.int .i64 side, .agg #[.int .i64 a0, .int .i64 b0, .int .i64 c0]] W fun e w' => e = .returned (.bool true) ∧ Below W.heap.size W w' := by
  have hsd := wf_i64 w0
  obtain ⟨hs0, hs1⟩ := hsd
  clear w0
  go_enter Try.func9, Try.ntmps9
  go_wp2_with fail
  refine (works_any _).mono ?_
  rintro e w1 ⟨rfl, hb1⟩
  have lx : W.heap.size < w1.heap.size := Nat.lt_of_lt_of_le (by simp) hb1.size
  have hbx := (Blk.new W 56 #[.int .i64 a0, .int .i64 b0, .int .i64 c0]).later hb1
  have hw1 := Bt (Ba (B0 W) (.cells #[.int .i64 a0, .int .i64 b0, .int .i64 c0] 56)) hb1
  clear hb1
  go_wp2_with fail
  refine (new_any _).mono ?_
  rintro e w2 ⟨rfl, hb2, hx2⟩
  replace hbx := hbx.later hb2
  go_wp2_with fail
  refine (cut_any _ _ _ _ side _ hx2).mono ?_
  rintro e w3 ⟨rfl, S3, hm3, hx3, hs3⟩
  obtain ⟨sd, hsd⟩ : ∃ sd, sd = cutS 0 side := ⟨_, rfl⟩
  have hsd0 : 0 ≤ sd := by rw [hsd]; unfold cutS; split <;> omega
  have hsd1 : sd < 9223372036854775808 := by rw [hsd]; unfold cutS; split <;> omega
  rw [← hsd] at hx3
  replace hbx := hbx.kept hm3 (by omega)
  have hw3 := Lib.hid (Bm (Bt hw1 hb2) hm3 (fun i hi => by subst hi; exact hw1.size))
  clear hsd hm3 hs3 hx2 hb2 hw1
  obtain ⟨q0, q1, q2, _⟩ := blk3 hbx
  have ha := adr_addrF a0
  have hb := adr_addrF b0
  have hc := adr_addrF c0
  have hT := reach_trans sd _ _ _ ha hb hc
  have hU := reach_two sd _ _ _ ha hb hc
  obtain ⟨r1, hr1⟩ : ∃ r, reachF sd (addrF a0) (addrF b0) = r := ⟨_, rfl⟩
  obtain ⟨r2, hr2⟩ : ∃ r, reachF sd (addrF b0) (addrF c0) = r := ⟨_, rfl⟩
  obtain ⟨r3, hr3⟩ : ∃ r, reachF sd (addrF a0) (addrF c0) = r := ⟨_, rfl⟩
  rw [hr1, hr2, hr3] at hT hU
  have HR := Lib.hid (And.intro hr1 (And.intro hr2 hr3))
  replace hT := Lib.hid (And.intro hT hU)
  clear hr1 hr2 hr3 ha hb hc hU
  go_wp2_with fail
  go_quiet ((go_at_call 24; exact quiet_left (address_any _ _)))
  replace hx3 := hx3.below (BdN (B0 w3) nq)
  go_wp2_with fail
  refine (reaches_at _ _ _ hx3 hsd0 hsd1 HR.out.1).mono ?_
  rintro e w' ⟨rfl, n1, rfl⟩
  replace hx3 := hx3.below (BdN (B0 _) n1)
  rw [World.drewN_drewN] at hx3
  go_wp2_with fail
  refine (reaches_at _ _ _ hx3 hsd0 hsd1 HR.out.2.1).mono ?_
  rintro e w' ⟨rfl, n2, rfl⟩
  replace hx3 := hx3.below (BdN (B0 _) n2)
  rw [World.drewN_drewN] at hx3
  go_wp2_with fail
  refine (reaches_at _ _ _ hx3 hsd0 hsd1 HR.out.2.2).mono ?_
  rintro e w' ⟨rfl, n3, rfl⟩
  clear hx3
  have HT := hT.out
  clear hT
  cases r1 <;> cases r2 <;> cases r3 <;> first
    | (exact absurd (HT.1 rfl rfl) (by decide))
    | (exact absurd (HT.2 rfl rfl) (by decide))
    | (clear HT
       go_wp2_with fail
       go_ret
       exact ⟨rfl, BdN hw3.out _⟩)

theorem laneOn_walk {H : Type} {enc : TypeId × Value → H} (W : World) (side : Int) (w0 : (Lit.int .i64 side).wf = true) {base : Nat} {sp : Nat → Bool} {held : Bool} {v : Value} {d : DataW H} {p : List MemPlace} (hv : Value.okWide Try.prog W .any base 56 v) (ht : DataW.Trod enc Try.prog W 0 sp held 56 v d p) :
    Calls Try.prog 9 #[.int .i64 side, v] W fun e w' => e = .returned (.bool true) ∧ Below W.heap.size W w' := by
  obtain ⟨a, b, c, rfl⟩ := open_three hv ht
  exact laneOn_ints W side w0 a b c
end Go.Proofs.Ytekedgokmmkplaa
