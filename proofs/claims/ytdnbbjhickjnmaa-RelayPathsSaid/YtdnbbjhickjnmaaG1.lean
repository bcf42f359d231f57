/- Laws of scores, and float arguments. -/
import Derived.Test.YtdnbbjhickjnmaaR10
import Derived.Test.YtdnbbjhickjnmaaArgs
namespace Go.Proofs.Ytdnbbjhickjnmaa
open Go.RowKit Go.WideShapes Go.ChangeShapes
set_option maxRecDepth 20000
set_option linter.unusedVariables false
set_option linter.unusedSimpArgs false

theorem trod_float {H : Type} {enc : TypeId × Value → H} {P : Program} {w : World} {base : Nat} {spare : Nat → Bool} {held : Bool} {fuel : Nat} {t : TypeId} {cs : List Value} {x : DataW H × List MemPlace} {k : FloatKind}
    (ht : P.underlying t = some (.float k)) (h : DataW.trod enc P w base spare held fuel t cs = some x) : ∃ n, cs = [.float k n] ∧ x = (.lit (.float k n), []) ∧ (Lit.float k n).wf = true := by
  cases fuel with
  | zero => simp [DataW.trod] at h
  | succ n =>
    unfold DataW.trod at h
    rw [ht] at h
    split at h <;> simp_all
theorem f64_wf {b : Nat} (h : (Lit.float .f64 b).wf = true) : b < 18446744073709551616 := by
  simpa [Lit.wf] using h

def GoodL (l : Pth) : Prop := ∀ x ∈ l, Good x.1
def told (l : Pth) (n : Int) : Bool := (l.getD n.toNat (0, false)).2
theorem goodL_new (n : Nat) : GoodL (List.replicate n (0, false)) := fun x hx => by
  rw [List.eq_of_mem_replicate hx]
  exact .inl (by simp)
theorem goodL_set {l : Pth} (h : GoodL l) (k : Nat) (x : Nat × Bool) (hx : Good x.1) : GoodL (l.set k x) := fun y hy => by
  rcases List.mem_or_eq_of_mem_set hy with hy | rfl
  · exact h y hy
  · exact hx
theorem goodL_at {l : Pth} (h : GoodL l) (k : Nat) : Good (l.getD k (0, false)).1 := by
  rw [List.getD_eq_getElem?_getD]
  rcases Nat.lt_or_ge k l.length with hk | hk
  · rw [List.getElem?_eq_getElem hk]; exact h _ (List.getElem_mem hk)
  · rw [List.getElem?_eq_none hk]; exact .inl (by simp)
theorem good_inf : Good 9218868437227405312 := .inl (Nat.le_refl _)
theorem goodL_rep {l : Pth} (h : GoodL l) (n : Int) (t : Nat) (ht : t < 18446744073709551616) : GoodL (repL l n t) := by
  unfold repL
  split
  · rename_i hb
    rw [Bool.and_eq_true] at hb
    have hg := tick_good t ht hb.2
    refine goodL_set h _ _ ?_
    unfold repV
    dsimp only
    split
    · exact mix_good _ _ (goodL_at h _) hg
    · exact hg
  · exact h
theorem goodL_lost {l : Pth} (h : GoodL l) (n : Int) : GoodL (lostL l n) := by
  unfold lostL
  split
  · exact goodL_set h _ _ good_inf
  · exact h
theorem goodL_score {l : Pth} (h : GoodL l) (n : Int) : Good (scoreF l n) := by
  unfold scoreF
  split
  · exact goodL_at h _
  · exact good_inf
theorem rep_length (l : Pth) (n : Int) (t : Nat) : (repL l n t).length = l.length := by unfold repL; split <;> simp
theorem lost_length (l : Pth) (n : Int) : (lostL l n).length = l.length := by unfold lostL; split <;> simp
theorem pin_rep (l : Pth) (n : Int) (t : Nat) (m : Int) : pin (repL l n t) m = pin l m := by unfold pin; rw [rep_length]
theorem pin_lost (l : Pth) (n : Int) (m : Int) : pin (lostL l n) m = pin l m := by unfold pin; rw [lost_length]
theorem repE_ok {l : Pth} {n : Int} {t : Nat} (hp : pin l n = true) (ht : tickB t = true) : repE l n t = 0 := by simp [repE, hp, ht]
theorem lostE_ok {l : Pth} {n : Int} (hp : pin l n = true) : lostE l n = 0 := by simp [lostE, hp]
theorem getD_set {l : Pth} {k : Nat} (h : k < l.length) (x : Nat × Bool) : (l.set k x).getD k (0, false) = x := by simp [List.getD_eq_getElem?_getD, h]
theorem score_rep {l : Pth} {n : Int} {t : Nat} (hp : pin l n = true) (ht : tickB t = true) : scoreF (repL l n t) n = (if told l n then mixF (scoreF l n) t else t) ∧ told (repL l n t) n = true := by
  have e : repL l n t = l.set n.toNat (repV (l.getD n.toNat (0, false)) t, true) := by simp [repL, hp, ht]
  obtain ⟨k, rfl, hk⟩ := pin_nat hp
  have hpr := pin_rep l (k : Int) t (k : Int)
  unfold scoreF told
  rw [hpr, hp, if_pos rfl, e, Int.toNat_natCast, getD_set hk, if_pos rfl]
  exact ⟨rfl, rfl⟩
theorem score_lost {l : Pth} {n : Int} (hp : pin l n = true) : scoreF (lostL l n) n = 9218868437227405312 ∧ told (lostL l n) n = false := by
  have e : lostL l n = l.set n.toNat (9218868437227405312, false) := by simp [lostL, hp]
  obtain ⟨k, rfl, hk⟩ := pin_nat hp
  have hpr := pin_lost l (k : Int) (k : Int)
  unfold scoreF told
  rw [hpr, hp, if_pos rfl, e, Int.toNat_natCast, getD_set hk]
  exact ⟨rfl, rfl⟩
theorem told_new (n : Nat) (m : Int) : told (List.replicate n (0, false)) m = false := by
  unfold told
  rw [List.getD_eq_getElem?_getD, List.getElem?_replicate]
  split <;> rfl

/-- The numbers that may not be, brought to 1. -/
def notTick (t : Nat) : Bool := !(FloatKind.f64.format.order t 0 == some .gt || FloatKind.f64.format.order t 0 == some .eq) || FloatKind.f64.format.order t 9218868437227405311 == some .gt
def fixF (t : Nat) : Nat := if notTick t then 4607182418800017408 else t
theorem order_some {x : Nat} (h : Good x) : FloatKind.f64.format.order x 9218868437227405311 ≠ none := by
  show (Ieee.double.read x).order (Ieee.double.read 9218868437227405311) ≠ none
  rw [read_max]
  rcases read_good x h with ⟨m, i, e⟩ | ⟨i, e⟩ | e <;> rw [e] <;> simp [Ieee.Datum.order]
theorem one_tick : tickB 4607182418800017408 = true := by kernel_rfl
theorem fix_tick (t : Nat) (ht : t < 18446744073709551616) : tickB (fixF t) = true ∧ fixF t < 18446744073709551616 := by
  unfold fixF
  cases h : notTick t
  · simp only [Bool.false_eq_true, if_false]
    refine ⟨?_, ht⟩
    unfold notTick at h
    rw [Bool.or_eq_false_iff, Bool.not_eq_false'] at h
    have hs := order_some (good_of_order t ht h.1)
    unfold tickB
    rw [h.1, Bool.true_and]
    cases ho : FloatKind.f64.format.order t 9218868437227405311 with
    | none => exact absurd ho hs
    | some o =>
      rw [ho] at h
      cases o
      · rfl
      · rfl
      · exact absurd h.2 (by decide)
  · exact ⟨one_tick, by simp⟩
end Go.Proofs.Ytdnbbjhickjnmaa
