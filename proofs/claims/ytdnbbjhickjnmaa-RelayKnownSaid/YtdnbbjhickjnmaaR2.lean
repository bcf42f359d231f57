/- Paths: Score, Lost, Report, Best. -/
import Derived.Test.YtdnbbjhickjnmaaR1
namespace Go.Proofs.Ytdnbbjhickjnmaa
open Go.RowKit
set_option maxRecDepth 20000
set_option linter.unusedVariables false
set_option linter.unusedSimpArgs false

def scoreF (l : Pth) (n : Int) : Nat := if pin l n then (l.getD n.toNat (0, false)).1 else 9218868437227405312
def lostE (l : Pth) (n : Int) : Int := if pin l n then 0 else 9
def lostL (l : Pth) (n : Int) : Pth := if pin l n then l.set n.toNat (9218868437227405312, false) else l
def repE (l : Pth) (n : Int) (t : Nat) : Int := if pin l n then (if tickB t then 0 else 2) else 9
def repV (x : Nat × Bool) (t : Nat) : Nat := if x.2 then mixF x.1 t else t
def repL (l : Pth) (n : Int) (t : Nat) : Pth := if pin l n && tickB t then l.set n.toNat (repV (l.getD n.toNat (0, false)) t, true) else l
theorem pin_nat {l : Pth} {n : Int} (h : pin l n = true) : ∃ k : Nat, n = k ∧ k < l.length := by
  simp only [pin, Bool.and_eq_true, decide_eq_true_eq] at h
  obtain ⟨k, rfl⟩ := Int.eq_ofNat_of_zero_le h.1
  exact ⟨k, rfl, by omega⟩
theorem PathsAt.score {w : World} {p g : Nat} {l : Pth} (h : PathsAt w p g l) (k : Nat) (hk : k < l.length) : w.cell? ⟨g, k * 2, none⟩ = some (.float .f64 l[k].1) ∧ w.cell? ⟨g, k * 2 + 1, none⟩ = some (.bool l[k].2) ∧ w.frozen? ⟨g, k * 2, none⟩ = false ∧ w.frozen? ⟨g, k * 2 + 1, none⟩ = false := by
  obtain ⟨h1, h2⟩ := pcells_at l k hk
  exact ⟨(h.2.1.cell _).trans (by simpa using h1), (h.2.1.cell _).trans (by simpa using h2), h.2.1.frozen _, h.2.1.frozen _⟩
theorem PathsAt.put {w : World} {p g : Nat} {l : Pth} (h : PathsAt w p g l) (k : Nat) (hk : k < l.length) (s : Nat) (b : Bool) :
    PathsAt ((w.setCell ⟨g, k * 2, none⟩ (.float .f64 s)).setCell ⟨g, k * 2 + 1, none⟩ (.bool b)) p g (l.set k (s, b)) := by
  refine ⟨?_, ?_, by simpa using h.2.2.1, by simpa using h.2.2.2⟩
  · rw [List.length_set]
    exact (h.1.far (p := ⟨g, k * 2, none⟩) h.ne _).far (p := ⟨g, k * 2 + 1, none⟩) h.ne _
  · have := (h.2.1.set_ (k * 2) (.float .f64 s)).set_ (k * 2 + 1) (.bool b)
    rw [← pcells_set l k s b hk]
    simpa using this
theorem PathsAt.put1 {w : World} {p g : Nat} {l : Pth} (h : PathsAt w p g l) (k : Nat) (hk : k < l.length) (s : Nat) (b : Bool) (hb : l[k].2 = b) :
    PathsAt (w.setCell ⟨g, k * 2, none⟩ (.float .f64 s)) p g (l.set k (s, b)) := by
  refine ⟨?_, ?_, by simpa using h.2.2.1, by simpa using h.2.2.2⟩
  · rw [List.length_set]
    exact h.1.far (p := ⟨g, k * 2, none⟩) h.ne _
  · have := h.2.1.set_ (k * 2) (.float .f64 s)
    rw [← pcells_set l k s b hk]
    have e : (((pcells l).set (k * 2) (.float .f64 s)).set (k * 2 + 1) (.bool b)) = (pcells l).set (k * 2) (.float .f64 s) := by
      have h2 := (pcells_at l k hk).2
      rw [hb] at h2
      apply List.ext_getElem?
      intro i
      by_cases hi : k * 2 + 1 = i
      · subst hi
        have hlt : k * 2 + 1 < (pcells l).length := by rw [pcells_length]; omega
        rw [List.getElem?_set_self (by simpa using hlt), List.getElem?_set_ne (by omega), h2]
      · rw [List.getElem?_set_ne hi]
    rw [e]
    simpa using this

theorem store_float (a : Addr) (b : Nat) (W : World) (m : Mode) : (store a (.float .f64 b) m).run Try.prog W = stored Try.prog W a (.float .f64 b) m := run_store _ W a _ m rfl

theorem score_any (p g : Nat) (l : Pth) (n : Int) (w : World) (h : PathsAt w p g l) : Calls Try.prog 32 #[.pointer (some ⟨p, 0, none⟩), .int .i64 n] w fun e w' => e = .returned (.float .f64 (scoreF l n)) ∧ w = w' := by
  have H := Lib.hid h
  unfold scoreF
  cases hp : pin l n
  · have HP := Lib.hid hp
    simp only [Bool.false_eq_true, if_false]
    clear hp h
    go_enter Try.func32, Try.ntmps32
    go_wp2_with (first
      | (go_at_call 52; refine (find_out p g l n HP.out _ H.out).mono ?_; rintro e w' ⟨rfl, rfl⟩)
      | (go_at_call 45; refine (inf_any _).mono ?_; rintro e w' ⟨rfl, rfl⟩))
    go_ret
    exact ⟨rfl, rfl⟩
  · obtain ⟨k, rfl, hk⟩ := pin_nat hp
    obtain ⟨d0, d1, _, _⟩ := h.score k hk
    simp only [if_true, Int.toNat_natCast, List.getD_eq_getElem?_getD, List.getElem?_eq_getElem hk, Option.getD_some]
    clear hp h
    go_enter Try.func32, Try.ntmps32
    go_wp2_with (go_at_call 52; refine (find_in p g l k hk _ H.out).mono ?_; rintro e w' ⟨rfl, rfl⟩)
    go_ret
    exact ⟨rfl, rfl⟩

theorem lost_any (p g : Nat) (l : Pth) (n : Int) (w : World) (h : PathsAt w p g l) : Calls Try.prog 29 #[.pointer (some ⟨p, 0, none⟩), .int .i64 n] w fun e w' => e = .returned (.int .i64 (lostE l n)) ∧ Mod (fun k => k = g) w w' ∧ PathsAt w' p g (lostL l n) := by
  have H := Lib.hid h
  unfold lostE lostL
  cases hp : pin l n
  · have HP := Lib.hid hp
    simp only [Bool.false_eq_true, if_false]
    clear hp h
    go_enter Try.func29, Try.ntmps29
    go_wp2_with (go_at_call 52; refine (find_out p g l n HP.out _ H.out).mono ?_; rintro e w' ⟨rfl, rfl⟩)
    go_ret
    exact ⟨rfl, Mod.refl _ _, H.out⟩
  · obtain ⟨k, rfl, hk⟩ := pin_nat hp
    obtain ⟨d0, d1, z0, z1⟩ := h.score k hk
    have hsf := store_float
    simp only [if_true, Int.toNat_natCast]
    clear hp h
    go_enter Try.func29, Try.ntmps29
    go_wp2_with (first
      | (go_at_call 52; refine (find_in p g l k hk _ H.out).mono ?_; rintro e w' ⟨rfl, rfl⟩)
      | (go_at_call 45; refine (inf_any _).mono ?_; rintro e w' ⟨rfl, rfl⟩))
    go_ret
    exact ⟨rfl, ((Mod.refl (fun k => k = g) w).setCell (.inl rfl) _).setCell (.inl rfl) _, H.out.put k hk _ _⟩

theorem report_any (p g : Nat) (l : Pth) (n : Int) (t : Nat) (ht : t < 18446744073709551616) (hG : ∀ x ∈ l, Good x.1) (w : World) (h : PathsAt w p g l) : Calls Try.prog 30 #[.pointer (some ⟨p, 0, none⟩), .int .i64 n, .float .f64 t] w fun e w' => e = .returned (.int .i64 (repE l n t)) ∧ Mod (fun k => k = g) w w' ∧ PathsAt w' p g (repL l n t) := by
  have H := Lib.hid h
  unfold repE repL
  cases hp : pin l n
  · have HP := Lib.hid hp
    simp only [Bool.false_eq_true, if_false, Bool.false_and]
    clear hp h
    go_enter Try.func30, Try.ntmps30
    go_wp2_with (go_at_call 52; refine (find_out p g l n HP.out _ H.out).mono ?_; rintro e w' ⟨rfl, rfl⟩)
    go_ret
    exact ⟨rfl, Mod.refl _ _, H.out⟩
  · obtain ⟨k, rfl, hk⟩ := pin_nat hp
    obtain ⟨d0, d1, z0, z1⟩ := h.score k hk
    have hsf := store_float
    simp only [if_true, Int.toNat_natCast, Bool.true_and]
    clear hp h
    cases htk : tickB t
    · simp only [Bool.false_eq_true, if_false]
      unfold tickB at htk
      rw [Bool.and_eq_false_iff] at htk
      have HT := Lib.hid htk
      rcases htk with h1 | h1
      · go_enter Try.func30, Try.ntmps30
        go_wp2_with (go_at_call 52; refine (find_in p g l k hk _ H.out).mono ?_; rintro e w' ⟨rfl, rfl⟩)
        go_ret
        exact ⟨rfl, Mod.refl _ _, H.out⟩
      · cases h2 : (FloatKind.f64.format.order t 0 == some .gt || FloatKind.f64.format.order t 0 == some .eq)
        · go_enter Try.func30, Try.ntmps30
          go_wp2_with (go_at_call 52; refine (find_in p g l k hk _ H.out).mono ?_; rintro e w' ⟨rfl, rfl⟩)
          go_ret
          exact ⟨rfl, Mod.refl _ _, H.out⟩
        · go_enter Try.func30, Try.ntmps30
          go_wp2_with (go_at_call 52; refine (find_in p g l k hk _ H.out).mono ?_; rintro e w' ⟨rfl, rfl⟩)
          go_ret
          exact ⟨rfl, Mod.refl _ _, H.out⟩
    · have hgt := tick_good t ht htk
      simp only [if_true]
      unfold tickB at htk
      rw [Bool.and_eq_true] at htk
      obtain ⟨h1, h2⟩ := htk
      have hs := hG l[k] (List.getElem_mem hk)
      have f1 : ∀ W, (binOp .mul 52 (.float .f64 4604930618986332160) (.float .f64 l[k].1)).run Try.prog W = .ok (.float .f64 (mulF 4604930618986332160 l[k].1)) W := fun W => run_float_arith W _ _ _ _ _ _ (mul75 _ hs).1
      have f2 : ∀ W, (binOp .mul 52 (.float .f64 4598175219545276416) (.float .f64 t)).run Try.prog W = .ok (.float .f64 (mulF 4598175219545276416 t)) W := fun W => run_float_arith W _ _ _ _ _ _ (mul25 _ hgt).1
      have f3 : ∀ W, (binOp .add 52 (.float .f64 (mulF 4604930618986332160 l[k].1)) (.float .f64 (mulF 4598175219545276416 t))).run Try.prog W = .ok (.float .f64 (mixF l[k].1 t)) W := fun W => run_float_arith W _ _ _ _ _ _ (add_good _ _ (mul75 _ hs).2 (mul25 _ hgt).2).1
      clear hgt hs hG
      have eg : l.getD k (0, false) = l[k] := by simp [List.getD_eq_getElem?_getD, hk]
      unfold repV
      rw [eg]
      cases hb : l[k].2
      · rw [hb] at d1
        simp only [Bool.false_eq_true, if_false]
        go_enter Try.func30, Try.ntmps30
        go_wp2_with (go_at_call 52; refine (find_in p g l k hk _ H.out).mono ?_; rintro e w' ⟨rfl, rfl⟩)
        go_ret
        exact ⟨rfl, ((Mod.refl (fun k => k = g) w).setCell (.inl rfl) _).setCell (.inl rfl) _, H.out.put k hk _ _⟩
      · rw [hb] at d1
        simp only [if_true]
        go_enter Try.func30, Try.ntmps30
        go_wp2_with (go_at_call 52; refine (find_in p g l k hk _ H.out).mono ?_; rintro e w' ⟨rfl, rfl⟩)
        go_ret
        exact ⟨rfl, (Mod.refl (fun k => k = g) w).setCell (.inl rfl) _, H.out.put1 k hk _ _ hb⟩
end Go.Proofs.Ytdnbbjhickjnmaa
