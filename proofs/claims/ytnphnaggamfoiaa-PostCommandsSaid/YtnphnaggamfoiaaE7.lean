/- The coder that reads: fields of every kind. -/
import Derived.Test.YtnphnaggamfoiaaE6
namespace Go.Proofs.Ytnphnaggamfoiaa
open Go.RowKit
set_option maxRecDepth 20000
set_option linter.unusedVariables false
set_option linter.unusedSimpArgs false

/-- A message apart from where its slices lie. -/
def Po.norm (P : Po) : Po := { P with EA := none, ec := 0, SA := none, sk := 0 }
def bS (kd : Int) (s : St) : St := if kd = 1 then rS1 s else if kd = 2 then rS2 s else if kd = 3 then rS3 s else if kd = 4 then rS4 s else if kd = 5 then rS5 s else if kd = 6 then rS6 s else s
def bL (kd : Int) (s : St) : List Ed := if kd = 3 then rE3 s else []
def bD (kd : Int) (s : St) : List Int := if kd = 5 then rD5 s else []
def bP (kd fr tq te : Int) (s : St) : Po := if kd = 1 then rP1 fr tq te s else if kd = 2 then rP2 fr tq te s else if kd = 3 then { rP3a fr tq te s with en := rN3 s } else if kd = 4 then rP4 fr tq te s else if kd = 5 then rP5 fr tq te s none 0 else if kd = 6 then rP6 fr tq te s else zPo kd fr tq te
/-- Behind the reading of what a kind has. -/
def BodyDid (T : Nat → Prop) (rb g : Nat) (kd fr tq te : Int) (s : St) (w : World) (e : Ending) (w' : World) : Prop :=
  ∃ P l d, RrDid T rb g 27 P.cs (bS kd s) w e w' ∧ PoAt w' (fun i => w.heap.size ≤ i ∧ i < w'.heap.size) P l d ∧ P.norm = bP kd fr tq te s ∧ l.map En.ed = bL kd s ∧ d = bD kd s
theorem po_bare {w : World} {S : Nat → Prop} (hS : ∀ i, S i → i < w.heap.size) {P : Po} (he : P.EA = none ∧ P.en = 0 ∧ P.ec = 0) (hs : P.SA = none ∧ P.sn = 0 ∧ P.sk = 0) : PoAt w S P [] [] := by
  refine ⟨hS, he.2.1.symm, by omega, ?_, by simp, hs.2.1.symm, by omega, ?_⟩
  · rw [he.1, he.2.1, he.2.2]; exact Rd.nil _ _ _
  · rw [hs.1, hs.2.1, hs.2.2]; exact Rd.nil _ _ _

theorem rfields_all (T : Nat → Prop) (rb g : Nat) (kd fr tq te : Int) (s : St) (w : World) (h : RrAt w T rb s) (hb : Blk w g 27 (zPo kd fr tq te).cs) (hg : ¬ T g) :
    Calls Try.prog 61 #[ri rb, .pointer (some ⟨g, 0, none⟩)] w (BodyDid T rb g kd fr tq te s w) := by
  by_cases k1 : kd = 1
  · subst k1
    refine (rfields1_any T rb g fr tq te s w h hb hg).mono fun e w' hd => ⟨_, [], [], hd, po_bare (fun i hi => hi.2) ⟨rfl, rfl, rfl⟩ ⟨rfl, rfl, rfl⟩, rfl, rfl, rfl⟩
  · by_cases k2 : kd = 2
    · subst k2
      refine (rfields2_any T rb g fr tq te s w h hb hg).mono fun e w' hd => ⟨_, [], [], hd, po_bare (fun i hi => hi.2) ⟨rfl, rfl, rfl⟩ ⟨rfl, rfl, rfl⟩, rfl, rfl, rfl⟩
    · by_cases k3 : kd = 3
      · subst k3
        refine (rfields3_any T rb g fr tq te s w h hb hg).mono fun e w' hd => ?_
        obtain ⟨A, l, h1, h2, h3⟩ := hd
        exact ⟨_, l, [], h1, h3, rfl, h2, rfl⟩
      · by_cases k4 : kd = 4
        · subst k4
          refine (rfields4_any T rb g fr tq te s w h hb hg).mono fun e w' hd => ⟨_, [], [], hd, po_bare (fun i hi => hi.2) ⟨rfl, rfl, rfl⟩ ⟨rfl, rfl, rfl⟩, rfl, rfl, rfl⟩
        · by_cases k5 : kd = 5
          · subst k5
            have hok := h.2.2.1
            refine (rfields5_any T rb g fr tq te s w h hb hg).mono fun e w' hd => ?_
            obtain ⟨A, c, h1, h2⟩ := hd
            have hlen : (rD5 s).length ≤ 65535 := oct_len ((((hok.nx 7).nx 7).nx 7).nx 1)
            refine ⟨_, [], rD5 s, h1, ⟨fun i hi => hi.2, rfl, (show 0 ≤ 140737488351232 by omega), Rd.nil _ _ _, by simp, rfl, (show (rD5 s).length ≤ 140737488351232 by omega), ?_⟩, rfl, rfl, rfl⟩
            exact (Rd.of_own h2).mono (fun i hi => ⟨own_ge h2 i hi, own_lt h2 i hi⟩)
          · by_cases k6 : kd = 6
            · subst k6
              refine (rfields6_any T rb g fr tq te s w h hb hg).mono fun e w' hd => ⟨_, [], [], hd, po_bare (fun i hi => hi.2) ⟨rfl, rfl, rfl⟩ ⟨rfl, rfl, rfl⟩, rfl, rfl, rfl⟩
            · refine (rfields0_any rb g kd fr tq te (by omega) w hb).mono fun e w' hd => ?_
              obtain ⟨rfl, rfl⟩ := hd
              have e1 : bS kd s = s := by unfold bS; rw [if_neg k1, if_neg k2, if_neg k3, if_neg k4, if_neg k5, if_neg k6]
              have e2 : bP kd fr tq te s = zPo kd fr tq te := by unfold bP; rw [if_neg k1, if_neg k2, if_neg k3, if_neg k4, if_neg k5, if_neg k6]
              exact ⟨zPo kd fr tq te, [], [], ⟨rfl, by rw [e1]; exact h, Mod.refl _ _, hb⟩, po_bare (fun i hi => hi.2) ⟨rfl, rfl, rfl⟩ ⟨rfl, rfl, rfl⟩, by rw [e2]; rfl, by unfold bL; rw [if_neg k3]; rfl, by unfold bD; rw [if_neg k5]⟩
end Go.Proofs.Ytnphnaggamfoiaa
