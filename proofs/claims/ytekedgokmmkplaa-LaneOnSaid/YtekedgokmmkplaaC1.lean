/- The statements LaneBack, LaneSides: their walks. -/
import Derived.Test.YtekedgokmmkplaaB2
import Derived.OpenShut
namespace Go.Proofs.Ytekedgokmmkplaa
open Go.RowKit
set_option linter.unusedVariables false
set_option linter.unusedSimpArgs false

theorem wf_i64 {a : Int} (h : (Lit.int .i64 a).wf = true) : -9223372036854775808 ≤ a ∧ a ≤ 9223372036854775807 := bounds_i64 h

theorem reachF_comm (sd a b : Int) : reachF sd a b = reachF sd b a := by
  unfold reachF
  rw [Bool.beq_comm, Bool.and_comm (adr a)]
theorem reachF_self (sd a : Int) : reachF sd a a = adr a := by simp [reachF]

theorem laneBack_walk (W : World) (side : Int) (w0 : (Lit.int .i64 side).wf = true) (a : Int) (w1 : (Lit.int .i64 a).wf = true) (b : Int) (w2 : (Lit.int .i64 b).wf = true) :
    Calls Try.prog 8 #[.int .i64 side, .int .i64 a, .int .i64 b] W fun e w' => e = .returned (.bool true) ∧ Below W.heap.size W w' := by
  have hs := wf_i64 w0
  obtain ⟨hs0, hs1⟩ := hs
  clear w0 w1 w2
  go_enter Try.func8, Try.ntmps8
  go_wp2_with fail
  refine (works_any _).mono ?_
  rintro e w1 ⟨rfl, hb1⟩
  go_wp2_with fail
  refine (new_in (fun _ => False) w1 (fun i h => h.elim) w1.heap.size (Nat.le_refl _)).mono ?_
  rintro e w2 ⟨rfl, HL2, hb2⟩
  go_wp2_with fail
  refine (cut_in side (by omega) _ HL2).mono ?_
  rintro e w3 ⟨rfl, HL3, hm3⟩
  obtain ⟨sd, hsd⟩ : ∃ sd, sd = cutS 0 side := ⟨_, rfl⟩
  rw [← hsd] at HL3
  clear hsd HL2
  go_wp2_with fail
  refine (reaches_in a b _ HL3).mono ?_
  rintro e w' ⟨rfl, n1, rfl⟩
  replace HL3 := HL3.below (BdN (B0 w3) n1)
  go_wp2_with fail
  refine (reaches_in b a _ HL3).mono ?_
  rintro e w' ⟨rfl, n2, rfl⟩
  rw [reachF_comm sd b a]
  replace HL3 := HL3.below (BdN (B0 _) n2)
  rw [World.drewN_drewN] at HL3
  go_wp2_with fail
  refine (address_any a _).mono ?_
  rintro e w' ⟨rfl, rfl⟩
  go_wp2_with fail
  refine (address_any a _).mono ?_
  rintro e w' ⟨rfl, rfl⟩
  go_wp2_with fail
  refine (reaches_in _ _ _ HL3).mono ?_
  rintro e w' ⟨rfl, n3, rfl⟩
  rw [reachF_self, adr_addrF]
  replace HL3 := HL3.below (BdN (B0 _) n3)
  rw [World.drewN_drewN] at HL3
  go_wp2_with fail
  refine (reaches_in _ _ _ HL3).mono ?_
  rintro e w' ⟨rfl, n4, rfl⟩
  rw [reachF_self]
  go_wp2_with fail
  refine (ref_address a _).mono ?_
  rintro e w' ⟨rfl, rfl⟩
  go_wp2_with fail
  go_ret
  exact ⟨ret_bool (by simp), BdN (Bm (Bt hb1 hb2) hm3 (fun i h => Nat.le_trans hb1.size h.1)) _⟩
end Go.Proofs.Ytekedgokmmkplaa
