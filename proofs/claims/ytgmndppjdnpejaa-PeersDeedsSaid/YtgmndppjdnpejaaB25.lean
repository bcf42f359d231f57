/- The list of a table: the nodes that count, in order (plain words). -/
import Derived.Test.YtgmndppjdnpejaaB23
namespace Go.Proofs.Ytgmndppjdnpejaa
open Go.RowKit
set_option maxRecDepth 20000
set_option linter.unusedVariables false
set_option linter.unusedSimpArgs false

theorem filt_none {l : List Int} {k : Int} (h : ∀ x ∈ l, k < x) : l.filter (fun x => decide (x ≤ k)) = [] := by
  rw [List.filter_eq_nil_iff]
  intro x hx
  have := h x hx
  simp
  omega
theorem filt_step : ∀ (l : List Int), l.Pairwise (fun a b => a < b) → ∀ k : Int, l.filter (fun x => decide (x ≤ k + 1)) = l.filter (fun x => decide (x ≤ k)) ++ (if k + 1 ∈ l then [k + 1] else [])
  | [], _, k => by simp
  | x :: l, h, k => by
    obtain ⟨h1, h2⟩ := List.pairwise_cons.1 h
    have ih := filt_step l h2 k
    by_cases hx : x ≤ k
    · rw [List.filter_cons_of_pos (by simp; omega), List.filter_cons_of_pos (by simp; omega), ih]
      have : (k + 1 ∈ x :: l) ↔ k + 1 ∈ l := by
        rw [List.mem_cons]
        exact ⟨fun h => h.elim (fun e => by omega) id, .inr⟩
      simp only [this, List.cons_append]
    · by_cases hx2 : x = k + 1
      · rw [List.filter_cons_of_pos (by simp; omega), List.filter_cons_of_neg (by simp; omega), filt_none (fun y hy => by have := h1 y hy; omega), filt_none (fun y hy => by have := h1 y hy; omega), if_pos (by rw [hx2]; simp), hx2]
        rfl
      · rw [List.filter_cons_of_neg (by simp; omega), List.filter_cons_of_neg (by simp; omega), ih]
        have : (k + 1 ∈ x :: l) ↔ k + 1 ∈ l := by
          rw [List.mem_cons]
          exact ⟨fun h => h.elim (fun e => by omega) id, .inr⟩
        simp only [this]
/-- The nodes that count. -/
def ndsN (tick : Int) (ps : List Pe) : List Int := (ps.filter (fun p => decide (tick < p.ex))).map Pe.nd
theorem nds_pair {m : Nm} (ho : NmOk m) (tick : Int) : (ndsN tick m.ps).Pairwise (fun a b => a < b) := by
  unfold ndsN
  rw [List.pairwise_map]
  exact (ho.pair.filter _).imp (fun h => h.1)
theorem pk_some {m : Nm} {qs : List Pe} (ho : NmOk m) (hpx : qs.map Pe.px = m.ps.map Pe.px) (tick n : Int) : (pkN tick qs n).isSome = true ↔ n ∈ ndsN tick m.ps := by
  unfold ndsN
  rw [List.mem_map]
  constructor
  · intro h
    obtain ⟨q, hq⟩ := Option.isSome_iff_exists.1 h
    obtain ⟨h1, h2, h3⟩ := pkN_mem hq
    obtain ⟨p, hp, e⟩ := mem_px hpx h1
    refine ⟨p, List.mem_filter.2 ⟨hp, ?_⟩, ?_⟩
    · rw [← show q.ex = p.ex from congrArg Px.ex e]; simpa using h3
    · rw [← show q.nd = p.nd from congrArg Px.nd e, h2]
  · rintro ⟨p, hp, rfl⟩
    obtain ⟨hp1, hp2⟩ := List.mem_filter.1 hp
    rcases pk_at ho hpx hp1 tick with ⟨_, q, e, _⟩ | ⟨h, _⟩
    · rw [e]; rfl
    · exact absurd (by simpa using hp2) h
theorem list_is {m : Nm} {qs : List Pe} (ho : NmOk m) (hpx : qs.map Pe.px = m.ps.map Pe.px) (tick : Int) : ∀ k : Nat, listN tick qs k = (ndsN tick m.ps).filter (fun x => decide (x ≤ (k : Int)))
  | 0 => by
    rw [filt_none]
    · rfl
    · intro x hx
      unfold ndsN at hx
      obtain ⟨p, hp, rfl⟩ := List.mem_map.1 hx
      have := (ho.nd p (List.mem_filter.1 hp).1).1
      omega
  | k + 1 => by
    have ih := list_is ho hpx tick k
    have e : ((k + 1 : Nat) : Int) = (k : Int) + 1 := by omega
    have hs : listN tick qs (k + 1) = if (pkN tick qs ((k : Int) + 1)).isSome = true then listN tick qs k ++ [(k : Int) + 1] else listN tick qs k := rfl
    rw [e, filt_step _ (nds_pair ho tick) k, ← ih, hs]
    by_cases h : (pkN tick qs ((k : Int) + 1)).isSome = true
    · rw [if_pos h, if_pos ((pk_some ho hpx tick _).1 h)]
    · rw [if_neg h, if_neg (fun hm => h ((pk_some ho hpx tick _).2 hm)), List.append_nil]
theorem list_nds {m : Nm} {qs : List Pe} (ho : NmOk m) (hpx : qs.map Pe.px = m.ps.map Pe.px) (tick : Int) : listN tick qs 8 = ndsN tick m.ps := by
  rw [list_is ho hpx tick 8, List.filter_eq_self]
  intro x hx
  unfold ndsN at hx
  obtain ⟨p, hp, rfl⟩ := List.mem_map.1 hx
  have := (ho.nd p (List.mem_filter.1 hp).1).2
  simpa using this
theorem lkK_at_px {m : Nm} {qs : List Pe} (ho : NmOk m) (hpx : qs.map Pe.px = m.ps.map Pe.px) {p : Pe} (hp : p ∈ m.ps) : nodeK qs p.ks = p.nd := by
  have hin : p.px ∈ qs.map Pe.px := by rw [hpx]; exact List.mem_map_of_mem hp
  obtain ⟨q0, hq0, e0⟩ := List.mem_map.1 hin
  unfold nodeK
  cases hf : lkK qs p.ks with
  | none =>
    exfalso
    unfold lkK at hf
    rw [List.find?_eq_none] at hf
    have := hf q0 (by simpa using hq0)
    rw [show q0.ks = p.ks from congrArg Px.ks e0] at this
    simp at this
  | some q =>
    have h1 := hf
    unfold lkK at h1
    have hq : q ∈ qs := by have := List.mem_of_find?_eq_some h1; simpa using this
    have hn : q.ks = p.ks := by have := List.find?_some h1; simpa using this
    obtain ⟨p', hp', e'⟩ := mem_px hpx hq
    have hpn : p'.ks = p.ks := by rw [← show q.ks = p'.ks from congrArg Px.ks e', hn]
    have hpp : p' = p := by
      have : ∀ {l : List Pe}, l.Pairwise (fun a b => a.nd < b.nd ∧ a.ks ≠ b.ks) → ∀ a ∈ l, ∀ b ∈ l, a.ks = b.ks → a = b := by
        intro l
        induction l with
        | nil => intro _ a ha; simp at ha
        | cons x l ih =>
          intro h a ha b hb e
          obtain ⟨h1, h2⟩ := List.pairwise_cons.1 h
          rcases List.mem_cons.1 ha with ea | ha1
          · rcases List.mem_cons.1 hb with eb | hb1
            · rw [ea, eb]
            · exact absurd (by rw [← ea]; exact e) (h1 b hb1).2
          · rcases List.mem_cons.1 hb with eb | hb1
            · exact absurd (by rw [← eb]; exact e.symm) (h1 a ha1).2
            · exact ih h2 a ha1 b hb1 e
      exact this ho.pair p' hp' p hp hpn
    subst hpp
    show ((some q).map Pe.nd).getD 0 = p'.nd
    exact congrArg Px.nd e'
theorem lkK_none {m : Nm} {qs : List Pe} (ho : NmOk m) (hpx : qs.map Pe.px = m.ps.map Pe.px) (ks : List Int) (h : ∀ p ∈ m.ps, p.ks ≠ ks) : nodeK qs ks = 0 := by
  unfold nodeK
  cases hf : lkK qs ks with
  | none => rfl
  | some q =>
    exfalso
    unfold lkK at hf
    have hq : q ∈ qs := by have := List.mem_of_find?_eq_some hf; simpa using this
    have hn : q.ks = ks := by have := List.find?_some hf; simpa using this
    obtain ⟨p, hp, e⟩ := mem_px hpx hq
    exact h p hp (by rw [← show q.ks = p.ks from congrArg Px.ks e, hn])
end Go.Proofs.Ytgmndppjdnpejaa
