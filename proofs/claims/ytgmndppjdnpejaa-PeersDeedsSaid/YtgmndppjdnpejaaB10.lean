/- A table's answers: By, within, In, Out. -/
import Derived.Test.YtgmndppjdnpejaaB9
namespace Go.Proofs.Ytgmndppjdnpejaa
open Go.RowKit
set_option maxRecDepth 20000
set_option linter.unusedVariables false
set_option linter.unusedSimpArgs false

def wiB (l : List Sp) (port : Int) : Bool := l.any (fun s => decide (s.lo ≤ port) && decide (port ≤ s.hi))
theorem clo_any (g : Nat) (t : TypeId) (port lo hi : Int) (w : World) (hb : Blk w g t #[.int .i64 port]) :
    Calls Try.prog 60 #[.agg #[.int .i64 lo, .int .i64 hi], .pointer (some ⟨g, 0, none⟩)] w fun e w' => e = .returned (.bool (decide (lo ≤ port) && decide (port ≤ hi))) ∧ Below w.heap.size w w' := by
  have y0 : w.cell? ⟨g, 0, none⟩ = some (.int .i64 port) := hb.cell 0
  have lg := hb.lt
  clear hb
  by_cases h : lo ≤ port
  · have h' : decide (lo ≤ port) = true := decide_eq_true h
    rw [h']
    go_enter Try.func60, Try.ntmps60
    go_wp2_with fail
    go_ret
    exact ⟨by simp, Ba (B0 w) _⟩
  · have h' : decide (lo ≤ port) = false := decide_eq_false h
    rw [h']
    go_enter Try.func60, Try.ntmps60
    go_wp2_with fail
    go_ret
    exact ⟨by simp, Ba (B0 w) _⟩

set_option maxHeartbeats 2000000 in
theorem sindex_any (S : Nat → Prop) (A : Option Addr) (c : Nat) (l : List Sp) (g : Nat) (port : Int) (w : World) (hb : Blk w g 3 #[.int .i64 port]) (hr : Rd w S 2 (.slice A l.length c) l.length (rowS l)) (hS : ∀ i, S i → i < w.heap.size) :
    Calls Try.prog 64 #[.slice A l.length c, .func (.func 60) #[] #[.pointer (some ⟨g, 0, none⟩)]] w fun e w' => (∃ r : Int, e = .returned (.int .i64 r) ∧ decide (0 ≤ r) = wiB l port) ∧ Below w.heap.size w w' := by
  have hcap := hr.cap.2
  have hc1 := hcap.1
  have hc2 := hcap.2
  unfold maxLen at hc2
  have HR := Lib.hid hr
  have HS := Lib.hid hS
  have HG := Lib.hid hb
  clear hr hS hcap hb
  go_enter Try.func64, Try.ntmps64
  go_wp2_with fail
  go_loopw [8] (fun i wr => ∃ k : Nat, k ≤ l.length ∧ i = .int .i64 k ∧ (wiB l port = wiB (l.drop k) port) ∧ Below w.heap.size w wr) (fun i _ => l.length - (intOf i).toNat)
  case atStart => exact ⟨0, Nat.zero_le _, rfl, by simp, B0 _⟩
  case round =>
    obtain ⟨k, hk, rfl, hne, hb⟩ := hrel
    obtain ⟨wv, rfl⟩ : ∃ wv, wv = wr := ⟨_, rfl⟩
    have HB := Lib.hid hb
    have HNE := Lib.hid hne
    by_cases hlt : k < l.length
    · have hlt' : (k : Int) < (l.length : Int) := by omega
      have hk0 : (0 : Int) ≤ (k : Int) := by omega
      obtain ⟨gs, o, hA, hgS, c0, c1⟩ := span_at (HR.out.below hb HS.out) hlt
      subst hA
      obtain ⟨lo, hlo⟩ : ∃ x, x = (l[k]).lo := ⟨_, rfl⟩
      obtain ⟨hi, hhi⟩ : ∃ x, x = (l[k]).hi := ⟨_, rfl⟩
      rw [← hlo] at c0
      rw [← hhi] at c1
      have HNX : Hid (wiB (l.drop k) port = ((decide (lo ≤ port) && decide (port ≤ hi)) || wiB (l.drop (k + 1)) port)) := Lib.hid (by rw [List.drop_eq_getElem_cons hlt, hlo, hhi]; rfl)
      clear hb hne hlo hhi hgS
      go_wp2_with fail
      refine (clo_any g 3 port lo hi _ (HG.out.later HB.out)).mono ?_
      obtain ⟨b, hbq⟩ : ∃ b, b = (decide (lo ≤ port) && decide (port ≤ hi)) := ⟨_, rfl⟩
      rw [← hbq]
      have HBQ := Lib.hid hbq
      rintro e w1 ⟨rfl, hbe⟩
      have HBE := Lib.hid (Bt HB.out hbe)
      clear hbe hbq c0 c1
      cases b
      · go_wp2_with fail
        go_roundw
        case rel => exact ⟨k + 1, by omega, by go_num, by rw [HNE.out, HNX.out, ← HBQ.out]; rfl, HBE.out⟩
        case measure => simp [intOf]; omega
      · go_wp2_with fail
        go_ret
        exact ⟨⟨k, rfl, by rw [decide_eq_true (by omega), HNE.out, HNX.out, ← HBQ.out]; rfl⟩, HBE.out⟩
    · obtain rfl : k = l.length := by omega
      clear hb hne
      go_wp2_with fail
      go_ret
      exact ⟨⟨-1, rfl, by rw [decide_eq_false (by omega), HNE.out, List.drop_of_length_le (Nat.le_refl _)]; rfl⟩, HB.out⟩
theorem scontains_any (S : Nat → Prop) (A : Option Addr) (c : Nat) (l : List Sp) (g : Nat) (port : Int) (w : World) (hb : Blk w g 3 #[.int .i64 port]) (hr : Rd w S 2 (.slice A l.length c) l.length (rowS l)) (hS : ∀ i, S i → i < w.heap.size) :
    Calls Try.prog 59 #[.slice A l.length c, .func (.func 60) #[] #[.pointer (some ⟨g, 0, none⟩)]] w fun e w' => e = .returned (.bool (wiB l port)) ∧ Below w.heap.size w w' := by
  have HR := Lib.hid hr
  have HS := Lib.hid hS
  have HG := Lib.hid hb
  clear hr hS hb
  go_enter Try.func59, Try.ntmps59
  go_wp2_with fail
  refine (sindex_any S A c l g port w HG.out HR.out HS.out).mono ?_
  rintro e w1 ⟨⟨r, rfl, hr⟩, hb⟩
  have HB := Lib.hid hb
  have HRR := Lib.hid hr
  clear hb hr
  go_wp2_with fail
  go_ret
  exact ⟨ret_bool HRR.out, HB.out⟩
theorem mkfn60 (w : World) (g : Nat) : (Instr.makeFunc (.func 60) #[] #[.pointer (some ⟨g, 0, none⟩)]).run Try.prog w = .ok (.func (.func 60) #[] #[.pointer (some ⟨g, 0, none⟩)]) w := by kernel_rfl
theorem within_any (S : Nat → Prop) (A : Option Addr) (c : Nat) (l : List Sp) (port : Int) (w : World) (hr : Rd w S 2 (.slice A l.length c) l.length (rowS l)) (hS : ∀ i, S i → i < w.heap.size) :
    Calls Try.prog 46 #[.slice A l.length c, .int .i64 port] w fun e w' => e = .returned (.bool (wiB l port)) ∧ Below w.heap.size w w' := by
  have HR := Lib.hid (hr.below (Ba (B0 w) (.cells #[.int .i64 port] 3)) hS)
  have HS := Lib.hid (show ∀ i, S i → i < (w.alloc (.cells #[.int .i64 port] 3)).heap.size from fun i hi => Nat.lt_of_lt_of_le (hS i hi) (by simp))
  have HG := Lib.hid (Blk.new w 3 #[.int .i64 port])
  have hmf := mkfn60
  clear hr hS
  go_enter Try.func46, Try.ntmps46
  go_wp2_with fail
  refine (scontains_any S A c l w.heap.size port _ HG.out HR.out HS.out).mono ?_
  rintro e w1 ⟨rfl, hb⟩
  have HB := Lib.hid hb
  obtain ⟨b, hbq⟩ : ∃ b, b = wiB l port := ⟨_, rfl⟩
  rw [← hbq]
  have HBQ := Lib.hid hbq
  clear hb hbq
  go_wp2_with fail
  go_ret
  exact ⟨ret_bool HBQ.out, Bt (Ba (B0 w) _) HB.out⟩
end Go.Proofs.Ytgmndppjdnpejaa
