/- Netmaps that say the same may be alike; what was handed in, and is overwritten. -/
import Derived.Test.YtgmndppjdnpejaaR12
namespace Go.Proofs.Ytgmndppjdnpejaa
open Go.RowKit
set_option maxRecDepth 20000
set_option linter.unusedVariables false
set_option linter.unusedSimpArgs false

theorem peB_px {c n t : Int} {kl : List (List Int)} {p q : Pe} (h : q.px = p.px) : peB c n t kl q = peB c n t kl p := by
  unfold peB
  rw [show q.nd = p.nd from congrArg Px.nd h, show q.ks = p.ks from congrArg Px.ks h, show q.ex = p.ex from congrArg Px.ex h, show q.ins = p.ins from congrArg Px.ins h, show q.outs = p.outs from congrArg Px.outs h]
theorem goB_px {c n : Int} : ∀ {qs ps : List Pe} (t : Int) (kl : List (List Int)), qs.map Pe.px = ps.map Pe.px → goB c n t kl qs = goB c n t kl ps
  | [], [], _, _, _ => rfl
  | [], p :: ps, _, _, h => by simp at h
  | q :: qs, [], _, _, h => by simp at h
  | q :: qs, p :: ps, t, kl, h => by
    rw [List.map_cons, List.map_cons] at h
    injection h with h1 h2
    show (peB c n t kl q && goB c n q.nd (kl ++ [q.ks]) qs) = (peB c n t kl p && goB c n p.nd (kl ++ [p.ks]) ps)
    rw [peB_px h1, show q.nd = p.nd from congrArg Px.nd h1, show q.ks = p.ks from congrArg Px.ks h1, goB_px p.nd (kl ++ [p.ks]) h2]
theorem nmB_eq {n m : Nm} (h : NmEq n m) : nmB n = nmB m := by
  unfold nmB mayB
  show (nuB n.ver && (nuB n.clock && (ndB n.node && (if n.ks = z32 then (n.ex == 0 && n.ps.length == 0) else nuB n.ex && (decide (n.clock < n.ex) && goB n.clock n.node 0 [z32, n.ks] n.ps))))) = (nuB m.ver && (nuB m.clock && (ndB m.node && (if m.ks = z32 then (m.ex == 0 && m.ps.length == 0) else nuB m.ex && (decide (m.clock < m.ex) && goB m.clock m.node 0 [z32, m.ks] m.ps)))))
  rw [h.ver, h.clock, h.node, h.ks, h.ex, goB_px 0 [z32, m.ks] h.ps, px_len h.ps]
theorem setE_eq {n m : Nm} (h : NmEq n m) (node ver : Int) : setE n node ver = setE m node ver := by
  unfold setE
  rw [nmB_eq h, h.node, h.ver]
theorem spl_get {l L : List Value} {o j : Nat} (hl : o + L.length ≤ l.length) (h : j < o ∨ o + L.length ≤ j) : (spl l o L)[j]? = l[j]? := by
  unfold spl
  have hlen : (l.take o).length = o := by simp; omega
  rcases h with h | h
  · rw [List.getElem?_append_left (by omega), List.getElem?_take_of_lt h]
  · rw [List.getElem?_append_right (by omega), hlen, List.getElem?_append_right (by omega), List.getElem?_drop]
    congr 1
    omega
theorem spl_len {l L : List Value} {o : Nat} (hl : o + L.length ≤ l.length) : (spl l o L).length = l.length := by
  unfold spl
  simp
  omega
/-- What was handed in (blocks from B to C), the peers' keys and spans of any content. -/
structure InAt (w : World) (B C b : Nat) (n : Nm) : Prop where
  box : Blk w b 34 n.L.toArray
  hb : B ≤ b ∧ b < C
  row : n.ps.length = 0 ∨ ∃ (gp : Nat) (cur : List Value), n.PA = some ⟨gp, 0, none⟩ ∧ B ≤ gp ∧ gp < C ∧ Blk w gp 43 cur.toArray ∧ n.ps.length * 36 ≤ cur.length ∧ ∀ k (hk : k < n.ps.length), cur[k * 36 + 34]? = some (.slice (n.ps[k]).IA (n.ps[k]).ins.length (n.ps[k]).ic)
  ins : ∀ q ∈ n.ps, q.ins.length ≤ q.ic ∧ (q.ins.length = 0 ∨ ∃ (gi : Nat) (cs : List Value), q.IA = some ⟨gi, 0, none⟩ ∧ B ≤ gi ∧ gi < C ∧ Blk w gi 45 cs.toArray ∧ q.ins.length * 2 ≤ cs.length)
theorem blk_type {w : World} {g : Nat} {t t' : TypeId} {c c' : Array Value} (h : Blk w g t c) (h' : Blk w g t' c') : t = t' ∧ c = c' := by
  unfold Blk at h h'
  rw [h] at h'
  injection h' with h'
  injection h' with e1 e2
  exact ⟨e2, e1⟩
theorem InAt.span {w : World} {B C b : Nat} {n : Nm} (h : InAt w B C b n) {gi : Nat} {cs : List Value} (hb : Blk w gi 45 cs.toArray) (o : Nat) (u v : Value) :
    InAt ((w.setCell ⟨gi, o, none⟩ u).setCell ⟨gi, o + 1, none⟩ v) B C b n := by
  refine ⟨(h.box.far (p := ⟨gi, o, none⟩) (fun e => by subst e; exact absurd (blk_type h.box hb).1 (by decide)) u).far (p := ⟨gi, o + 1, none⟩) (fun e => by subst e; exact absurd (blk_type h.box hb).1 (by decide)) v, h.hb, ?_, fun q hq => ⟨(h.ins q hq).1, ?_⟩⟩
  · rcases h.row with e | ⟨gp, cur, h1, h2, h3, h4, h5, h6⟩
    · exact .inl e
    · exact .inr ⟨gp, cur, h1, h2, h3, (h4.far (p := ⟨gi, o, none⟩) (fun e => by subst e; exact absurd (blk_type h4 hb).1 (by decide)) u).far (p := ⟨gi, o + 1, none⟩) (fun e => by subst e; exact absurd (blk_type h4 hb).1 (by decide)) v, h5, h6⟩
  · rcases (h.ins q hq).2 with e | ⟨g2, c2, h1, h2, h3, h4, h5⟩
    · exact .inl e
    · by_cases e : g2 = gi
      · subst e
        have h6 := (h4.set_ o u).set_ (o + 1) v
        rw [List.setIfInBounds_toArray, List.setIfInBounds_toArray] at h6
        exact .inr ⟨g2, _, h1, h2, h3, h6, by simpa using h5⟩
      · exact .inr ⟨g2, c2, h1, h2, h3, (h4.far (p := ⟨gi, o, none⟩) e u).far (p := ⟨gi, o + 1, none⟩) e v, h5⟩
theorem InAt.key {w w' : World} {B C b : Nat} {n : Nm} (h : InAt w B C b n) {gp : Nat} {cur K : List Value} {k : Nat} (hk : k < n.ps.length) (hp : n.PA = some ⟨gp, 0, none⟩) (hc : Blk w gp 43 cur.toArray) (hK : K.length = 32) (hb : Blk w' gp 43 (spl cur (k * 36 + 1) K).toArray) (hm : Mod (fun j => j = gp) w w') : InAt w' B C b n := by
  refine ⟨h.box.kept hm (fun e => by subst e; exact absurd (blk_type h.box hc).1 (by decide)), h.hb, ?_, fun q hq => ⟨(h.ins q hq).1, ?_⟩⟩
  · rcases h.row with e | ⟨g2, c2, h1, h2, h3, h4, h5, h6⟩
    · omega
    · rw [hp] at h1
      injection h1 with h1
      injection h1 with h1 _
      subst h1
      have e : c2 = cur := by
        have := (blk_type h4 hc).2
        simpa using this
      subst e
      have hlen : k * 36 + 1 + K.length ≤ c2.length := by rw [hK]; omega
      refine .inr ⟨gp, _, hp, h2, h3, hb, by rw [spl_len hlen]; exact h5, fun j hj => ?_⟩
      rw [spl_get hlen ?_]
      · exact h6 j hj
      · rw [hK]
        rcases Nat.lt_trichotomy j k with hjk | rfl | hjk
        · left; omega
        · right; omega
        · right; omega
  · rcases (h.ins q hq).2 with e | ⟨g2, c2, h1, h2, h3, h4, h5⟩
    · exact .inl e
    · exact .inr ⟨g2, c2, h1, h2, h3, h4.kept hm (fun e => by subst e; exact absurd (blk_type h4 hc).1 (by decide)), h5⟩
theorem InAt.kept {w w' : World} {B C b : Nat} {n : Nm} {T : Nat → Prop} (h : InAt w B C b n) (hm : Mod T w w') (hT : ∀ i, T i → i < B ∨ C ≤ i) : InAt w' B C b n := by
  have hx : ∀ i, B ≤ i → i < C → ¬ T i := fun i h1 h2 h3 => by have := hT i h3; omega
  refine ⟨h.box.kept hm (hx _ h.hb.1 h.hb.2), h.hb, ?_, fun q hq => ⟨(h.ins q hq).1, ?_⟩⟩
  · rcases h.row with e | ⟨g2, c2, h1, h2, h3, h4, h5, h6⟩
    · exact .inl e
    · exact .inr ⟨g2, c2, h1, h2, h3, h4.kept hm (hx _ h2 h3), h5, h6⟩
  · rcases (h.ins q hq).2 with e | ⟨g2, c2, h1, h2, h3, h4, h5⟩
    · exact .inl e
    · exact .inr ⟨g2, c2, h1, h2, h3, h4.kept hm (hx _ h2 h3), h5⟩
theorem in_at {w : World} {B b : Nat} {n : Nm} (h : PsOwn w B n.PA n.ps.length n.pc n.ps) (hk : ∀ q ∈ n.ps, q.ks.length = 32) (hb : Blk w b 34 n.L.toArray) (hB : B ≤ b) : InAt w B w.heap.size b n := by
  refine ⟨hb, ⟨hB, hb.lt⟩, ?_, fun q hq => ?_⟩
  · rcases h.1.2 with ⟨_, e⟩ | ⟨g, cap, cur, e, h1, h2, h3, h4, h5, h6⟩
    · exact .inl e
    · injection e with e1 _ _
      have hlt : g < w.heap.size := (Array.getElem?_eq_some_iff.1 h2).1
      refine .inr ⟨g, cur.toList, e1, h1, hlt, by rw [Array.toArray_toList]; exact h2, ?_, fun k hkl => ?_⟩
      · have : cur.toList.length = cap * 36 := by simpa using h5
        rw [this]
        exact Nat.mul_le_mul_right 36 h3
      · have h7 := flat_at (f := Pe.L) (n := 36) (l := n.ps) (fun p hp => Pe.len (hk p hp)) k hkl 34 (by omega)
        have h8 : (rowP n.ps)[k * 36 + 34]? = cur.toList[k * 36 + 34]? := by
          rw [← h6, List.getElem?_take_of_lt]
          omega
        rw [← h8]
        show (n.ps.flatMap Pe.L)[k * 36 + 34]? = _
        rw [h7]
        simp [Pe.L, List.getElem?_append_right, hk _ (List.getElem_mem hkl), bts]
  · obtain ⟨o1, _⟩ := h.2 q hq
    have hr := Rd.of_own o1
    refine ⟨hr.cap.2.1, ?_⟩
    rcases o1.2 with ⟨_, e⟩ | ⟨g, cap, cur, e, h1, h2, h3, h4, h5, h6⟩
    · exact .inl e
    · injection e with e1 _ _
      have hlt : g < w.heap.size := (Array.getElem?_eq_some_iff.1 h2).1
      refine .inr ⟨g, cur.toList, e1, h1, hlt, by rw [Array.toArray_toList]; exact h2, ?_⟩
      have : cur.toList.length = cap * 2 := by simpa using h5
      rw [this]
      exact Nat.mul_le_mul_right 2 h3
end Go.Proofs.Ytgmndppjdnpejaa
