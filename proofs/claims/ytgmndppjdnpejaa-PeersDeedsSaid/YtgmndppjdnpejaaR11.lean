/- What a table and the document's table tell of the same netmap (plain). -/
import Derived.Test.YtgmndppjdnpejaaR10
import Derived.Test.YtgmndppjdnpejaaB25
namespace Go.Proofs.Ytgmndppjdnpejaa
open Go.RowKit
set_option maxRecDepth 20000
set_option linter.unusedVariables false
set_option linter.unusedSimpArgs false

/-- The table's peers are the netmap's, and that may be (or has none). -/
def Link (m : Nm) (qs : List Pe) : Prop := qs.map Pe.px = m.ps.map Pe.px ∧ (NmOk m ∨ m.ps = [])
theorem Link.nil {m : Nm} {qs : List Pe} (h : Link m qs) (e : m.ps = []) : qs = [] := by
  have := h.1
  rw [e] at this
  simpa using this
theorem ks_inj : ∀ {l : List Pe}, l.Pairwise (fun p q => p.nd < q.nd ∧ p.ks ≠ q.ks) → ∀ a ∈ l, ∀ b ∈ l, a.ks = b.ks → a = b
  | [], _, a, ha, _, _, _ => by simp at ha
  | x :: l, h, a, ha, b, hb, e => by
    obtain ⟨h1, h2⟩ := List.pairwise_cons.1 h
    rcases List.mem_cons.1 ha with ea | ha1
    · rcases List.mem_cons.1 hb with eb | hb1
      · rw [ea, eb]
      · exact absurd (by rw [← ea]; exact e) (h1 b hb1).2
    · rcases List.mem_cons.1 hb with eb | hb1
      · exact absurd (by rw [← eb]; exact e.symm) (h1 a ha1).2
      · exact ks_inj h2 a ha1 b hb1 e
theorem byP_some {tick : Int} {m : Nm} (ho : NmOk m) {p : Pe} (hp : p ∈ m.ps) (h : tick < p.ex) : byP tick m.ps p.nd = some p := by
  have hc : p ∈ cntP tick m.ps := List.mem_filter.2 ⟨hp, by simpa using h⟩
  cases hq : byP tick m.ps p.nd
  · exfalso
    unfold byP at hq
    rw [List.find?_eq_none] at hq
    exact hq p hc (by simp)
  · rename_i r
    have h1 := List.mem_of_find?_eq_some hq
    have h2 := List.find?_some hq
    have h3 : r.nd = p.nd := by simpa using h2
    rw [pair_inj (f := Pe.nd) (ho.pair.imp (fun h => h.1)) r (cnt_mem h1).1 p hp h3]
theorem byP_none {tick n : Int} {ps : List Pe} (h : ∀ p ∈ ps, tick < p.ex → p.nd ≠ n) : byP tick ps n = none := by
  unfold byP
  rw [List.find?_eq_none]
  intro p hp
  have := h p (cnt_mem hp).1 (cnt_mem hp).2
  simpa using this
theorem lk_by {m : Nm} {qs : List Pe} (h : Link m qs) (tick n : Int) : (pkN tick qs n).map Pe.px = (byP tick m.ps n).map Pe.px := by
  rcases h.2 with ho | e
  · by_cases hn : ∃ p ∈ m.ps, p.nd = n
    · obtain ⟨p, hp, rfl⟩ := hn
      rcases pk_at ho h.1 hp tick with ⟨h1, q, h2, h3⟩ | ⟨h1, h2⟩
      · rw [h2, byP_some ho hp h1]
        simp [h3]
      · rw [h2, byP_none (fun r hr hx he => h1 (by rw [← pair_inj (f := Pe.nd) (ho.pair.imp (fun h => h.1)) r hr p hp he]; exact hx))]
    · rw [pkN_none (fun q hq e => by
        obtain ⟨p, hp, e2⟩ := mem_px h.1 hq
        exact hn ⟨p, hp, (congrArg Px.nd e2).symm.trans e⟩), byP_none (fun p hp _ e => hn ⟨p, hp, e⟩)]
  · rw [h.nil e, e]
    rfl
theorem kyP_some {tick : Int} {m : Nm} (ho : NmOk m) {p : Pe} (hp : p ∈ m.ps) (h : tick < p.ex) : kyP tick m.ps p.ks = some p := by
  have hc : p ∈ cntP tick m.ps := List.mem_filter.2 ⟨hp, by simpa using h⟩
  cases hq : kyP tick m.ps p.ks
  · exfalso
    unfold kyP at hq
    rw [List.find?_eq_none] at hq
    exact hq p hc (by simp)
  · rename_i r
    have h1 := List.mem_of_find?_eq_some hq
    have h2 := List.find?_some hq
    have h3 : r.ks = p.ks := by simpa using h2
    rw [ks_inj ho.pair r (cnt_mem h1).1 p hp h3]
theorem kyP_none {tick : Int} {ks : List Int} {ps : List Pe} (h : ∀ p ∈ ps, tick < p.ex → p.ks ≠ ks) : kyP tick ps ks = none := by
  unfold kyP
  rw [List.find?_eq_none]
  intro p hp
  have := h p (cnt_mem hp).1 (cnt_mem hp).2
  simpa using this
theorem lk_key {m : Nm} {qs : List Pe} (h : Link m qs) (tick : Int) (ks : List Int) : (pkN tick qs (nodeK qs ks)).map Pe.px = (kyP tick m.ps ks).map Pe.px := by
  rcases h.2 with ho | e
  · by_cases hn : ∃ p ∈ m.ps, p.ks = ks
    · obtain ⟨p, hp, rfl⟩ := hn
      rw [lkK_at_px ho h.1 hp]
      rcases pk_at ho h.1 hp tick with ⟨h1, q, h2, h3⟩ | ⟨h1, h2⟩
      · rw [h2, kyP_some ho hp h1]
        simp [h3]
      · rw [h2, kyP_none (fun r hr hx he => h1 (by rw [← ks_inj ho.pair r hr p hp he]; exact hx))]
    · rw [lkK_none ho h.1 ks (fun p hp e => hn ⟨p, hp, e⟩), kyP_none (fun p hp _ e => hn ⟨p, hp, e⟩), pkN_none (fun q hq e => by
        obtain ⟨p, hp, e2⟩ := mem_px h.1 hq
        have := (ho.nd p hp).1
        have e3 : q.nd = p.nd := congrArg Px.nd e2
        omega)]
  · rw [h.nil e, e]
    rfl
theorem lk_list {m : Nm} {qs : List Pe} (h : Link m qs) (tick : Int) : listN tick qs 8 = (cntP tick m.ps).map Pe.nd := by
  rcases h.2 with ho | e
  · exact list_nds ho h.1 tick
  · rw [h.nil e, e]
    rfl
/-- What two peers that say the same answer. -/
theorem map_px {Q R : Option Pe} (h : Q.map Pe.px = R.map Pe.px) : Q.isSome = R.isSome ∧ (Q.getD zPe).px = (R.getD zPe).px := by
  cases Q <;> cases R
  · exact ⟨rfl, rfl⟩
  · simp at h
  · simp at h
  · simp at h
    exact ⟨rfl, h⟩
end Go.Proofs.Ytgmndppjdnpejaa
