/- What a table tells of a netmap's peer (plain words). -/
import Derived.Test.YtgmndppjdnpejaaB22
namespace Go.Proofs.Ytgmndppjdnpejaa
open Go.RowKit
set_option maxRecDepth 20000
set_option linter.unusedVariables false
set_option linter.unusedSimpArgs false

theorem pair_inj {α : Type} {f : α → Int} : ∀ {l : List α}, l.Pairwise (fun a b => f a < f b) → ∀ a ∈ l, ∀ b ∈ l, f a = f b → a = b
  | [], _, a, ha, _, _, _ => by simp at ha
  | x :: l, h, a, ha, b, hb, e => by
    obtain ⟨h1, h2⟩ := List.pairwise_cons.1 h
    rcases List.mem_cons.1 ha with ea | ha1
    · rcases List.mem_cons.1 hb with eb | hb1
      · rw [ea, eb]
      · have := h1 b hb1; rw [ea] at e; omega
    · rcases List.mem_cons.1 hb with eb | hb1
      · have := h1 a ha1; rw [eb] at e; omega
      · exact pair_inj h2 a ha1 b hb1 e
theorem lkN_at_px {m : Nm} {qs : List Pe} (ho : NmOk m) (hpx : qs.map Pe.px = m.ps.map Pe.px) {p : Pe} (hp : p ∈ m.ps) : ∃ q ∈ qs, lkN qs p.nd = some q ∧ q.px = p.px := by
  have hin : p.px ∈ qs.map Pe.px := by rw [hpx]; exact List.mem_map_of_mem hp
  obtain ⟨q0, hq0, e0⟩ := List.mem_map.1 hin
  cases hf : lkN qs p.nd with
  | none =>
    exfalso
    unfold lkN at hf
    rw [List.find?_eq_none] at hf
    have := hf q0 (by simpa using hq0)
    rw [show q0.nd = p.nd from congrArg Px.nd e0] at this
    simp at this
  | some q =>
    have h1 := hf
    unfold lkN at h1
    have hq : q ∈ qs := by have := List.mem_of_find?_eq_some h1; simpa using this
    have hn : q.nd = p.nd := by have := List.find?_some h1; simpa using this
    obtain ⟨p', hp', e'⟩ := mem_px hpx hq
    have hpn : p'.nd = p.nd := by rw [← show q.nd = p'.nd from congrArg Px.nd e', hn]
    have := pair_inj (f := Pe.nd) (ho.pair.imp (fun h => h.1)) p' hp' p hp hpn
    subst this
    exact ⟨q, hq, rfl, e'⟩
theorem pk_at {m : Nm} {qs : List Pe} (ho : NmOk m) (hpx : qs.map Pe.px = m.ps.map Pe.px) {p : Pe} (hp : p ∈ m.ps) (tick : Int) : (tick < p.ex ∧ ∃ q, pkN tick qs p.nd = some q ∧ q.px = p.px) ∨ (¬ tick < p.ex ∧ pkN tick qs p.nd = none) := by
  obtain ⟨q, _, h1, h2⟩ := lkN_at_px ho hpx hp
  have hex : q.ex = p.ex := congrArg Px.ex h2
  unfold pkN
  rw [h1, Option.filter_some, hex]
  by_cases h : tick < p.ex
  · exact .inl ⟨h, q, by simp [h], h2⟩
  · exact .inr ⟨h, by simp [h]⟩
/-- What In, Out tell of a peer of the netmap. -/
theorem pk_ins {m : Nm} {qs : List Pe} (ho : NmOk m) (hpx : qs.map Pe.px = m.ps.map Pe.px) {p : Pe} (hp : p ∈ m.ps) (tick port : Int) : wiB ((pkN tick qs p.nd).getD zPe).ins port = (wiB p.ins port && decide (tick < p.ex)) := by
  rcases pk_at ho hpx hp tick with ⟨h, q, e1, e2⟩ | ⟨h, e1⟩
  · rw [e1, show ((some q).getD zPe).ins = p.ins from congrArg Px.ins e2, decide_eq_true h, Bool.and_true]
  · rw [e1, decide_eq_false h, Bool.and_false]; rfl
theorem pk_outs {m : Nm} {qs : List Pe} (ho : NmOk m) (hpx : qs.map Pe.px = m.ps.map Pe.px) {p : Pe} (hp : p ∈ m.ps) (tick port : Int) : wiB ((pkN tick qs p.nd).getD zPe).outs port = (wiB p.outs port && decide (tick < p.ex)) := by
  rcases pk_at ho hpx hp tick with ⟨h, q, e1, e2⟩ | ⟨h, e1⟩
  · rw [e1, show ((some q).getD zPe).outs = p.outs from congrArg Px.outs e2, decide_eq_true h, Bool.and_true]
  · rw [e1, decide_eq_false h, Bool.and_false]; rfl
theorem wiB_take {l : List Sp} {k : Nat} (hk : k < l.length) (port : Int) : wiB (l.take (k + 1)) port = (wiB (l.take k) port || (decide ((l[k]).lo ≤ port) && decide (port ≤ (l[k]).hi))) := by
  unfold wiB
  rw [List.take_succ_eq_append_getElem hk, List.any_append]
  simp
end Go.Proofs.Ytgmndppjdnpejaa
