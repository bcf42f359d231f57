/- The reference's paths. -/
import Derived.Test.YtdnbbjhickjnmaaR11
namespace Go.Proofs.Ytdnbbjhickjnmaa
open Go.RowKit
set_option maxRecDepth 20000
set_option linter.unusedVariables false
set_option linter.unusedSimpArgs false

def fcell (l : Pth) : List Value := l.map fun x => .float .f64 x.1
def bcell (l : Pth) : List Value := l.map fun x => .bool x.2
/-- The reference's paths at block p. -/
def RefAt (w : World) (p g h : Nat) (l : Pth) : Prop := Blk w p 93 #[.slice (some ⟨g, 0, none⟩) l.length l.length, .slice (some ⟨h, 0, none⟩) l.length l.length] ∧ Blk w g 52 (fcell l).toArray ∧ Blk w h 4 (bcell l).toArray ∧ 0 < l.length ∧ l.length ≤ 4
theorem RefAt.kept {w w' : World} {S : Nat → Prop} {p g h : Nat} {l : Pth} (k : RefAt w p g h l) (hm : Mod S w w') (hp : ¬ S p) (hg : ¬ S g) (hh : ¬ S h) : RefAt w' p g h l := ⟨k.1.kept hm hp, k.2.1.kept hm hg, k.2.2.1.kept hm hh, k.2.2.2⟩
theorem RefAt.later {w w' : World} {p g h : Nat} {l : Pth} (k : RefAt w p g h l) (hb : Below w.heap.size w w') : RefAt w' p g h l := ⟨k.1.later hb, k.2.1.later hb, k.2.2.1.later hb, k.2.2.2⟩
theorem RefAt.cells {w : World} {p g h : Nat} {l : Pth} (k : RefAt w p g h l) (i : Nat) (hi : i < l.length) : w.cell? ⟨g, i, none⟩ = some (.float .f64 l[i].1) ∧ w.cell? ⟨h, i, none⟩ = some (.bool l[i].2) ∧ w.frozen? ⟨g, i, none⟩ = false ∧ w.frozen? ⟨h, i, none⟩ = false :=
  ⟨(k.2.1.cell _).trans (by simp [fcell, hi]), (k.2.2.1.cell _).trans (by simp [bcell, hi]), k.2.1.frozen _, k.2.2.1.frozen _⟩
theorem RefAt.ne {w : World} {p g h : Nat} {l : Pth} (k : RefAt w p g h l) : p ≠ g ∧ p ≠ h ∧ g ≠ h := ⟨k.1.ne_ k.2.1 (by decide), k.1.ne_ k.2.2.1 (by decide), k.2.1.ne_ k.2.2.1 (by decide)⟩
theorem fcell_set (l : Pth) (i : Nat) (s : Nat) (b : Bool) : (fcell l).set i (.float .f64 s) = fcell (l.set i (s, b)) := by simp [fcell]
theorem bcell_set (l : Pth) (i : Nat) (s : Nat) (b : Bool) : (bcell l).set i (.bool b) = bcell (l.set i (s, b)) := by simp [bcell]
theorem RefAt.put {w : World} {p g h : Nat} {l : Pth} (k : RefAt w p g h l) (i : Nat) (s : Nat) (b : Bool) :
    RefAt ((w.setCell ⟨h, i, none⟩ (.bool b)).setCell ⟨g, i, none⟩ (.float .f64 s)) p g h (l.set i (s, b)) := by
  obtain ⟨n1, n2, n3⟩ := k.ne
  refine ⟨?_, ?_, ?_, by simpa using k.2.2.2.1, by simpa using k.2.2.2.2⟩
  · rw [List.length_set]
    exact (k.1.far (p := ⟨h, i, none⟩) n2 _).far (p := ⟨g, i, none⟩) n1 _
  · have := (k.2.1.far (p := ⟨h, i, none⟩) n3 (.bool b)).set_ i (.float .f64 s)
    rw [← fcell_set l i s b]
    simpa using this
  · have := (k.2.2.1.set_ i (.bool b)).far (p := ⟨g, i, none⟩) (Ne.symm n3) (.float .f64 s)
    rw [← bcell_set l i s b]
    simpa using this
theorem RefAt.put1 {w : World} {p g h : Nat} {l : Pth} (k : RefAt w p g h l) (i : Nat) (hi : i < l.length) (s : Nat) (b : Bool) (hb : l[i].2 = b) :
    RefAt (w.setCell ⟨g, i, none⟩ (.float .f64 s)) p g h (l.set i (s, b)) := by
  obtain ⟨n1, n2, n3⟩ := k.ne
  refine ⟨?_, ?_, ?_, by simpa using k.2.2.2.1, by simpa using k.2.2.2.2⟩
  · rw [List.length_set]
    exact k.1.far (p := ⟨g, i, none⟩) n1 _
  · have := k.2.1.set_ i (.float .f64 s)
    rw [← fcell_set l i s b]
    simpa using this
  · have e : bcell (l.set i (s, b)) = bcell l := by
      rw [← bcell_set l i s b]
      apply List.ext_getElem?
      intro j
      by_cases hj : i = j
      · subst hj
        rw [List.getElem?_set_self (by simpa [bcell] using hi)]
        simp [bcell, hi, hb]
      · rw [List.getElem?_set_ne hj]
    rw [e]
    exact k.2.2.1.far (p := ⟨g, i, none⟩) (Ne.symm n3) _

theorem rscore_any (p g h : Nat) (l : Pth) (n : Int) (w : World) (k : RefAt w p g h l) : Calls Try.prog 36 #[.pointer (some ⟨p, 0, none⟩), .int .i64 n] w fun e w' => e = .returned (.float .f64 (scoreF l n)) ∧ w = w' := by
  obtain ⟨q0, q1, z0, z1⟩ := blk2 k.1
  have e0 := k.2.2.2.1
  have e4 := k.2.2.2.2
  unfold scoreF
  cases hp : pin l n
  · simp only [Bool.false_eq_true, if_false]
    by_cases h0 : n < 0
    · clear hp k
      go_enter Try.func36, Try.ntmps36
      go_wp2_with (go_at_call 45; refine (inf_any _).mono ?_; rintro e w' ⟨rfl, rfl⟩)
      go_ret
      exact ⟨rfl, rfl⟩
    · have h1 : ¬ n < (l.length : Int) := by intro h; simp [pin, h] at hp; omega
      clear hp k
      go_enter Try.func36, Try.ntmps36
      go_wp2_with (go_at_call 45; refine (inf_any _).mono ?_; rintro e w' ⟨rfl, rfl⟩)
      go_ret
      exact ⟨rfl, rfl⟩
  · obtain ⟨i, rfl, hi⟩ := pin_nat hp
    obtain ⟨d0, d1, _, _⟩ := k.cells i hi
    have i0 : (0 : Int) ≤ (i : Int) := by omega
    have i1 : (i : Int) < (l.length : Int) := by omega
    simp only [if_true, Int.toNat_natCast, List.getD_eq_getElem?_getD, List.getElem?_eq_getElem hi, Option.getD_some]
    clear hp k
    go_enter Try.func36, Try.ntmps36
    go_wp2
    go_ret
    exact ⟨rfl, rfl⟩

set_option maxHeartbeats 1000000 in
theorem rlost_any (p g h : Nat) (l : Pth) (n : Int) (w : World) (k : RefAt w p g h l) : Calls Try.prog 34 #[.pointer (some ⟨p, 0, none⟩), .int .i64 n] w fun e w' => e = .returned (.int .i64 (lostE l n)) ∧ Mod (fun i => i = g ∨ i = h) w w' ∧ RefAt w' p g h (lostL l n) := by
  obtain ⟨q0, q1, z0, z1⟩ := blk2 k.1
  have e0 := k.2.2.2.1
  have e4 := k.2.2.2.2
  have K := Lib.hid k
  unfold lostE lostL
  cases hp : pin l n
  · simp only [Bool.false_eq_true, if_false]
    by_cases h0 : n < 0
    · clear hp k
      go_enter Try.func34, Try.ntmps34
      go_wp2
      go_ret
      exact ⟨rfl, Mod.refl _ _, K.out⟩
    · have h1 : ¬ n < (l.length : Int) := by intro h; simp [pin, h] at hp; omega
      clear hp k
      go_enter Try.func34, Try.ntmps34
      go_wp2
      go_ret
      exact ⟨rfl, Mod.refl _ _, K.out⟩
  · obtain ⟨i, rfl, hi⟩ := pin_nat hp
    obtain ⟨d0, d1, z2, z3⟩ := k.cells i hi
    obtain ⟨n1, n2, n3⟩ := k.ne
    have i0 : (0 : Int) ≤ (i : Int) := by omega
    have i1 : (i : Int) < (l.length : Int) := by omega
    have hsf := store_float
    simp only [if_true, Int.toNat_natCast]
    clear hp k
    go_enter Try.func34, Try.ntmps34
    go_wp2_with fail
    go_region_law (go_simp; go_at_call 45; refine (inf_any _).mono ?_; rintro e w' ⟨rfl, rfl⟩)
    all_goals
      go_wp2
      go_ret
      exact ⟨rfl, (((Mod.refl (fun i => i = g ∨ i = h) w).setCell (.inl (.inr rfl)) _).drew.setCell (.inl (.inl rfl)) _), K.out.put i _ _⟩
end Go.Proofs.Ytdnbbjhickjnmaa
