/- The coder that writes: fields of every message that may be. -/
import Derived.Test.YtnphnaggamfoiaaD5
import Derived.Test.YtnphnaggamfoiaaC10
namespace Go.Proofs.Ytnphnaggamfoiaa
open Go.RowKit
set_option maxRecDepth 20000
set_option linter.unusedVariables false
set_option linter.unusedSimpArgs false

theorem wiB_iff {n a b : Int} : wiB n a b = true ↔ a ≤ n ∧ n ≤ b := by simp [wiB]
theorem nuB_iff {n : Int} : nuB n = true ↔ 0 ≤ n ∧ n ≤ 9007199254740991 := by simp [nuB, wiB]
theorem i64_nu {n : Int} (h : nuB n = true) : I64 n := by rw [nuB_iff] at h; unfold I64; omega
/-- What entries that may be are. -/
theorem ents_facts (te : Int) (ht : te ≤ 9007199254740991) : ∀ (l : List Ed) (base tm : Int), 0 ≤ tm → entsB te base tm l = true → ∀ k (hk : k < l.length), l[k].ix = base + k ∧ 0 ≤ l[k].te ∧ l[k].te ≤ te ∧ 0 ≤ l[k].ki ∧ l[k].ki ≤ 2 ∧ l[k].bs.length ≤ 1200
  | [], _, _, _, _, k, hk => by simp at hk
  | e :: l, base, tm, h0, h, k, hk => by
    simp only [entsB, entB, Bool.and_eq_true, beq_iff_eq, decide_eq_true_eq, wiB_iff] at h
    obtain ⟨⟨⟨⟨⟨h1, h2⟩, h3⟩, h4⟩, h5⟩, h6⟩ := h
    cases k with
    | zero => simp only [List.getElem_cons_zero]; refine ⟨by omega, by omega, by omega, by omega, by omega, by omega⟩
    | succ k =>
      have := ents_facts te ht l (base + 1) e.te (by omega) h6 k (by simpa using hk)
      simp only [List.getElem_cons_succ]
      refine ⟨by omega, by omega, by omega, by omega, by omega, by omega⟩
structure May (P : Po) (l : List Ed) : Prop where
  kd : 1 ≤ P.kd ∧ P.kd ≤ 6
  fr : 1 ≤ P.fr ∧ P.fr ≤ 5
  tq : 1 ≤ P.to ∧ P.to ≤ 5
  ne : P.fr ≠ P.to
  te : 0 ≤ P.te ∧ P.te ≤ 9007199254740991
  ix : 0 ≤ P.ix ∧ P.ix ≤ 9007199254740991
  co : 0 ≤ P.co ∧ P.co ≤ 9007199254740991
  hi : 0 ≤ P.hi ∧ P.hi ≤ 9007199254740991
  lt : 0 ≤ P.lt ∧ P.lt ≤ P.te
  al : alB P P.bare = true
  ents : entsB P.te (P.ix + 1) P.lt l = true
  most : l.length ≤ 8
  snap : P.kd = 5 → snpB P = true
theorem may_of {P : Po} {l : List Ed} (h : chkB P l = true) : May P l := by
  simp only [chkB, srvB, numB, Bool.and_eq_true, wiB_iff, nuB_iff, decide_eq_true_eq, Bool.not_eq_true', Bool.or_eq_true, beq_eq_false_iff_ne] at h
  obtain ⟨⟨⟨⟨⟨h1, ⟨h2, h3⟩, h4⟩, ⟨⟨⟨h5, h6⟩, h7⟩, h8⟩, h9⟩, h10⟩, h11, h12⟩, h13⟩ := h
  exact ⟨h1, h2, h3, h4, h5, h6, h7, h8, h9, h10, h11, by omega, fun h => h13.resolve_left (fun hn => hn h)⟩
/-- What a message of another kind has not. -/
theorem May.zero {P : Po} {l : List Ed} (h : May P l) : P.nums = P.bare.nums ∧ P.ok = P.bare.ok ∧ P.en = P.bare.en ∧ P.sn = P.bare.sn := by
  have := h.al
  simp only [alB, Bool.and_eq_true, beq_iff_eq] at this
  obtain ⟨⟨⟨a, b⟩, c⟩, d⟩ := this
  exact ⟨a, b, by omega, by omega⟩
theorem May.snap0 {P : Po} {l : List Ed} (h : May P l) : (P.kd = 5 ∧ 1 ≤ P.si ∧ P.si ≤ 9007199254740991 ∧ 0 ≤ P.st ∧ P.st ≤ P.te ∧ 1 ≤ P.sc ∧ P.sc ≤ 63 ∧ P.sn ≤ 8192) ∨ (P.kd ≠ 5 ∧ P.si = 0 ∧ P.st = 0 ∧ P.sc = 0 ∧ P.sn = 0) := by
  by_cases h5 : P.kd = 5
  · have := h.snap h5
    simp only [snpB, Bool.and_eq_true, wiB_iff, decide_eq_true_eq] at this
    obtain ⟨⟨⟨⟨h1, h2⟩, h3⟩, h4⟩, h6⟩ := this
    exact .inl ⟨h5, h1.1, h1.2, h2.1, h2.2, h4.1, h4.2, by omega⟩
  · obtain ⟨a, _, _, d⟩ := h.zero
    refine .inr ⟨h5, ?_⟩
    unfold Po.nums Po.bare at a
    unfold Po.bare at d
    by_cases k1 : P.kd = 1
    · simp [k1] at a d; exact ⟨by omega, by omega, by omega, by omega⟩
    · by_cases k2 : P.kd = 2
      · simp [k2] at a d; exact ⟨by omega, by omega, by omega, by omega⟩
      · by_cases k3 : P.kd = 3
        · simp [k3] at a d; exact ⟨by omega, by omega, by omega, by omega⟩
        · by_cases k4 : P.kd = 4
          · simp [k4] at a d; exact ⟨by omega, by omega, by omega, by omega⟩
          · simp [k1, k2, k3, k4, h5] at a d; exact ⟨by omega, by omega, by omega, by omega⟩
theorem May.poi {P : Po} {l : List Ed} (h : May P l) : PoI P := by
  have h1 := h.ix; have h2 := h.lt; have h3 := h.co; have h4 := h.hi; have h5 := h.te
  unfold PoI I64
  rcases h.snap0 with h6 | h6 <;> omega

def bodyL (xs : List Int) (P : Po) (l : List Ed) (d : List Int) : List Int :=
  if P.kd = 1 then wbody1 xs P else if P.kd = 2 then wbody2 xs P else if P.kd = 3 then wbody3 xs P l else if P.kd = 4 then wbody4 xs P else if P.kd = 5 then wbody5 xs P d else wbody6 xs P
theorem did_g {B : Nat} {K : Nat → Prop} {p ge n : Nat} {xs ys : List Int} {w w' : World} {e : Ending} (he : ys = xs) (h : Wr.WDidIn B K p xs (.tuple #[]) w e w') : WDidG B K p ge n ys w e w' := by
  subst he
  exact ⟨h.1, h.2.1, h.2.2.mono (fun i hi => .inl hi)⟩

theorem wfields_all {B : Nat} {K : Nat → Prop} {p : Nat} {xs : List Int} (g ge : Nat) (te : TypeId) (rest : List Value) (P : Po) (l : List En) (d : List Int) (hm : May P (l.map En.ed)) (hen : l.length = P.en) (w : World) (h : Wr.WrIn B K w p xs) (hb : Blk w g 27 P.cs) (hs : Stay B K g)
    (hge : P.en = 0 ∨ P.EA = some ⟨ge, 0, none⟩) (hbe : Blk w ge te (rowA l rest)) (hse : Stay B K ge) (hne : g ≠ ge) (hbl : ∀ x ∈ l, Rd w (fun i => i < B ∧ i ≠ ge) 1 (.slice x.A x.bs.length x.c) x.bs.length (bts x.bs))
    (hd : d.length = P.sn) (hdr : Rd w (fun i => i < B) 1 (.slice P.SA P.sn P.sk) P.sn (bts d)) (hl : xs.length + 20000 ≤ 140737488355328) :
    Calls Try.prog 61 #[wi p, .pointer (some ⟨g, 0, none⟩)] w (WDidG B K p ge P.en (bodyL xs P (l.map En.ed) d) w) := by
  have hkd := hm.kd
  have hx := hm.poi
  unfold bodyL
  by_cases k1 : P.kd = 1
  · exact (wfields1_any g P k1 hx w h hb hs (by omega)).mono fun e w' hd => did_g (by rw [if_pos k1]) hd
  · by_cases k2 : P.kd = 2
    · exact (wfields2_any g P k2 hx w h hb hs (by omega)).mono fun e w' hd => did_g (by rw [if_neg k1, if_pos k2]) hd
    · by_cases k3 : P.kd = 3
      · have hf := ents_facts P.te hm.te.2 (l.map En.ed) (P.ix + 1) P.lt hm.lt.1 hm.ents
        have e8 := hm.most
        rw [List.length_map] at e8
        rw [if_neg k1, if_neg k2, if_pos k3]
        refine wfields3_any g ge te rest P l k3 hx hm.ix hen (by omega) w h hb hs hge hbe hse hne (fun x hx => ?_) (fun k hk => ?_) (by omega)
        · obtain ⟨k, hk, rfl⟩ := List.getElem_of_mem hx
          have := hf k (by simpa using hk)
          rw [List.getElem_map] at this
          have ht := hm.te
          simp only [En.ed] at this
          exact ⟨by omega, by omega, by omega, hbl _ hx⟩
        · have := hf k (by simpa using hk)
          rw [List.getElem_map] at this
          exact this.1
      · by_cases k4 : P.kd = 4
        · exact (wfields4_any g P k4 hx w h hb hs (by omega)).mono fun e w' hd => did_g (by rw [if_neg k1, if_neg k2, if_neg k3, if_pos k4]) hd
        · by_cases k5 : P.kd = 5
          · have h8 : P.sn ≤ 8192 := by rcases hm.snap0 with h | h; omega; omega
            exact (wfields5_any g P d k5 hx w h hb hs ⟨hd, hdr⟩ (by omega)).mono fun e w' hd => did_g (by rw [if_neg k1, if_neg k2, if_neg k3, if_neg k4, if_pos k5]) hd
          · exact (wfields6_any g P (by omega) hx w h hb hs (by omega)).mono fun e w' hd => did_g (by rw [if_neg k1, if_neg k2, if_neg k3, if_neg k4, if_neg k5]) hd
theorem own_row {w : World} {base sz n c : Nat} {e : TypeId} {A : Option Addr} {xs : List Value} (h : w.ownsRow base e sz (.slice A n c) n xs) (h0 : 0 < n) (hsz : 0 < sz) : ∃ g rest, A = some ⟨g, 0, none⟩ ∧ base ≤ g ∧ Blk w g e (xs ++ rest).toArray := by
  rcases h.2 with ⟨_, hx⟩ | ⟨g, cap, cur, he, hb, hh, hnc, hcm, hcs, ht⟩
  · have := h.1; rw [hx] at this; simp at this; omega
  · injection he with e1 e2 e3
    subst e1 e3
    refine ⟨g, cur.toList.drop (n * sz), rfl, hb, ?_⟩
    rw [← ht, List.take_append_drop]
    exact hh
end Go.Proofs.Ytnphnaggamfoiaa
