/- The reference's lane: Put, whatever comes. -/
import Derived.Test.YtekedgokmmkplaaH2
namespace Go.Proofs.Ytekedgokmmkplaa
open Go.RowKit
set_option maxRecDepth 20000
set_option linter.unusedVariables false
set_option linter.unusedSimpArgs false

theorem rlput_arg (p : Nat) (f t : Int) (A : Option Addr) (m c : Nat) (w : World) (h : (adr f && adr t && !(f == t)) = false) :
    Calls Try.prog 33 #[.pointer (some ⟨p, 0, none⟩), .agg #[.int .i64 f, .int .i64 t, .slice A m c]] w fun e w' => e = .returned (.int .i64 2) ∧ Below w.heap.size w w' := by
  cases hf : adr f
  · have HF := Lib.hid hf
    clear hf h
    go_enter Try.func33, Try.ntmps33
    go_wp2_with (go_at_call_of 30 f; refine (ref_address_is HF.out _).mono ?_; rintro e w' ⟨rfl, rfl⟩)
    go_ret
    exact ⟨rfl, Ba (B0 w) _⟩
  · cases ht : adr t
    · have HF := Lib.hid hf
      have HT := Lib.hid ht
      clear hf ht h
      by_cases hab : f = t
      · exfalso; have h1 := HF.out; have h2 := HT.out; rw [hab, h2] at h1; cases h1
      clear hab
      go_enter Try.func33, Try.ntmps33
      go_wp2_with (first
        | (go_at_call_of 30 f; refine (ref_address_is HF.out _).mono ?_; rintro e w' ⟨rfl, rfl⟩)
        | (go_at_call_of 30 t; refine (ref_address_is HT.out _).mono ?_; rintro e w' ⟨rfl, rfl⟩))
      go_ret
      exact ⟨rfl, Ba (B0 w) _⟩
    · rw [hf, ht] at h
      have e : f = t := by simpa using h
      subst e
      have HF := Lib.hid hf
      clear hf ht h
      go_enter Try.func33, Try.ntmps33
      go_wp2_with (go_at_call_of 30 f; refine (ref_address_is HF.out _).mono ?_; rintro e w' ⟨rfl, rfl⟩)
      go_ret
      exact ⟨rfl, Ba (B0 w) _⟩

theorem rlput_any (S T : Nat → Prop) (p : Nat) (ds : List Dg) (sd f t : Int) (A : Option Addr) (c : Nat) (bs : List Int) (w : World) (h : RlAt w S p ds sd) (hmost : ds.length ≤ 4000) (hr : Rd w T 1 (.slice A bs.length c) bs.length (bts bs)) (hT : ∀ i, T i → i < w.heap.size) (hbl : bs.length ≤ 140737488355328) :
    Calls Try.prog 33 #[.pointer (some ⟨p, 0, none⟩), .agg #[.int .i64 f, .int .i64 t, .slice A bs.length c]] w (RDid S p (putL ds f t bs) sd (.int .i64 (putE ds f t)) w) := by
  have h0 := h
  obtain ⟨h1, h2, l, sl, U, cs, h3, h4, h4a, h4b, h4c, h5, h6, h7, h8⟩ := h
  obtain ⟨As, kk, rfl⟩ := own_slice h5
  have hll : l.length = ds.length := by rw [← h3]; simp
  unfold putL
  cases hc : (adr f && adr t && !(f == t))
  · have he : putE ds f t = 2 := by simp only [putE, hc]; rfl
    rw [he]
    simp only [show ¬ ((2 : Int) = 0) from by omega, if_false]
    exact (rlput_arg p f t A _ c w hc).mono fun e w' ⟨he, hb⟩ => by subst he; exact RDid.same h0 hb
  · have he : putE ds f t = 0 := by simp only [putE, hc, if_true]; rw [if_neg (by omega)]
    rw [he]
    simp only [if_true]
    have hc2 : (adr f = true ∧ adr t = true) ∧ (f == t) = false := by simpa [Bool.and_eq_true] using hc
    obtain ⟨⟨hf, ht⟩, hne⟩ := hc2
    refine (rlput_ok p f t A c bs T w hr hT hbl hf ht hne l As kk cs h4 h4b h5 (by omega)).mono ?_
    rintro e w' ⟨rfl, A1, c1, v2, w1, w2, W, hW, HF, HA, rfl⟩
    have hlt : ∀ i, S i → i < w1.heap.size := fun i hi => Nat.lt_of_lt_of_le (h2 i hi) (Nat.le_trans hW.size HF.kept.size)
    have hb1 : Below w.heap.size w w1 := Bt hW HF.kept
    have hmA : Mod (fun k => (Value.slice As l.length kk).ownBlock = some k) (w1.alloc (.cells #[.int .i64 f, .int .i64 t, .slice A1 bs.length c1] 30)) w2 := (Mod.refl _ _).grown HA.grown (fun k hk => .inl hk)
    have hm2 : Mod (fun k => (Value.slice As l.length kk).ownBlock = some k) w1 w2 := ((Mod.refl _ _).alloc _).trans hmA (fun i hi => .inl hi)
    have hm3 : Mod (fun k => (Value.slice As l.length kk).ownBlock = some k ∨ k = p) w1 (w2.setCell ⟨p, 0, none⟩ v2) := (hm2.mono (fun i hi => .inl hi)).setCell (.inl (.inr rfl)) _
    have hp2 : Blk w2 p 39 cs := (h4.later hb1).kept hm2 (fun h => own_ne_blk h5 h4 (show (30 : TypeId) ≠ 39 by decide) h)
    have hown := HA.own
    have hv2 : ∀ k, v2.ownBlock = some k → k = w1.heap.size + 1 ∨ (Value.slice As l.length kk).ownBlock = some k := by
      intro k hk
      rcases HA.at_ with e | e
      · exact .inr (e ▸ hk)
      · left
        rw [e] at hk
        injection hk with hk
        simp at hk
        exact hk.symm
    refine ⟨rfl, fun k => S k ∨ (w.heap.size ≤ k ∧ k < w2.heap.size), ?_, ?_, fun i hi => hi.imp id And.left⟩
    · exact (Mod.of_below (S := S) hb1).trans hm3 (fun i hi => by
        rcases hi with hi | rfl
        · exact .inl (h6 i hi).1
        · exact .inl h1)
    · have hp : p < w1.heap.size := hlt p h1
      have hsz : w1.heap.size ≤ w2.heap.size := hm2.size
      refine ⟨.inl h1, ?_, l ++ [⟨f, t, A1, c1, bs⟩], v2, fun k => U k ∨ (w.heap.size ≤ k ∧ k < w1.heap.size), cs.setIfInBounds 0 v2, by simp [h3, Item.dg], hp2.set_ 0 v2, by simpa using h4a, by rw [Array.getElem?_setIfInBounds_self_of_lt (by omega)], ?_, ?_, ?_, ?_, ?_⟩
      · intro i hi
        simp only [World.size_setCell]
        rcases hi with hi | hi
        · exact Nat.lt_of_lt_of_le (hlt i hi) hsz
        · exact hi.2
      · intro a ha
        rw [Array.getElem?_setIfInBounds_ne (by omega)]
        exact h4c a ha
      · rw [rowOf_append, List.length_append]
        refine own_mod (T := fun k => k = p) hown ((Mod.refl (fun k => k = p) w2).setCell (.inl rfl) _) ?_ (Nat.le_refl _)
        intro k hk hkp
        subst hkp
        exact own_ne_blk hown hp2 (show (30 : TypeId) ≠ 39 by decide) hk
      · intro k hk
        have hk2 := own_lt hown k hk
        rcases hv2 k hk with rfl | hk'
        · refine ⟨.inr ⟨?_, hk2⟩, ?_⟩
          · have := hb1.size; omega
          · rintro (hu | hu)
            · have := hlt _ (h7 _ hu).1; omega
            · omega
        · refine ⟨.inl (h6 k hk').1, ?_⟩
          rintro (hu | hu)
          · exact (h6 k hk').2 hu
          · have := h2 k (h6 k hk').1; omega
      · intro i hi
        rcases hi with hi | hi
        · exact ⟨.inl (h7 i hi).1, (h7 i hi).2⟩
        · exact ⟨.inr ⟨hi.1, by omega⟩, by have := h2 p h1; omega⟩
      · intro x hx
        rcases List.mem_append.1 hx with hx | hx
        · refine Item.ok_mono ?_ (fun i hi => .inl hi)
          have h9 := Item.ok_kept (h8 x hx) (Mod.of_below (S := fun _ => False) hb1) (fun _ _ h => h)
          refine Item.ok_kept h9 hm3 ?_
          rintro i hi (hk | rfl)
          · exact (h6 i hk).2 hi
          · exact (h7 _ hi).2 rfl
        · simp only [List.mem_singleton] at hx
          subst hx
          refine ⟨?_, by show bs.length ≤ _; omega⟩
          have h9 : Rd w1 (fun k => w.heap.size ≤ k ∧ k < w1.heap.size) 1 (.slice A1 bs.length c1) bs.length (bts bs) :=
            (Rd.of_own HF.own).mono (fun i hi => ⟨Nat.le_trans hW.size (own_ge HF.own i hi), own_lt HF.own i hi⟩)
          refine (h9.kept hm3 ?_).mono (fun i hi => .inr hi)
          rintro i hi (hk | rfl)
          · have := h2 i (h6 i hk).1; omega
          · have := h2 i h1; omega

theorem rldouble_any (S : Nat → Prop) (p : Nat) (ds : List Dg) (sd i : Int) (w : World) (h : RlAt w S p ds sd) (hmost : ds.length ≤ 4000) (hl : (seeD ds i).bs.length ≤ 140737488355328) :
    Calls Try.prog 35 #[.pointer (some ⟨p, 0, none⟩), .int .i64 i] w (RDid S p (dblL ds i) sd (.int .i64 (dblE ds i)) w) := by
  have H := Lib.hid h
  clear h
  unfold dblL dblE
  by_cases hin : inR ds.length i = true
  · have he : seeE ds i = 0 := by simp [seeE, hin]
    simp only [hin, if_true]
    have HE := Lib.hid he
    clear he hin
    go_enter Try.func35, Try.ntmps35
    go_wp2_with fail
    refine (rlsee_any S p ds sd i _ H.out (by omega)).mono ?_
    rintro e w1 ⟨A1, c1, rfl, HF⟩
    rw [HE.out]
    have HFF := Lib.hid HF
    have hb1 := HF.kept
    obtain ⟨d, hd⟩ : ∃ d, d = seeD ds i := ⟨_, rfl⟩
    rw [← hd] at HFF hl ⊢
    have HDD := Lib.hid hd
    clear HF hd
    go_wp2_with fail
    refine (rlput_any S (fun k => k < w1.heap.size) p ds sd d.f d.t A1 c1 d.bs _ (H.out.below (Ba hb1 _)) hmost (HFF.out.rd1 _) (fun i hi => by simp; omega) hl).mono ?_
    rintro e w2 ⟨rfl, S', hm, hl2, hs⟩
    have HM := Lib.hid hm
    have HL2 := Lib.hid hl2
    go_wp2_with fail
    go_ret
    rw [← HDD.out]
    refine ⟨rfl, S', (Mod.of_below (S := S) (Ba hb1 _)).trans HM.out (fun i hi => .inl hi), HL2.out, fun i hi => (hs i hi).imp id (fun h => by have := hb1.size; simp at h; omega)⟩
  · have hin' : inR ds.length i = false := by simpa using hin
    have he : seeE ds i = 9 := by simp [seeE, hin']
    have hd : seeD ds i = ⟨0, 0, []⟩ := by simp [seeD, hin']
    simp only [hin', Bool.false_eq_true, if_false]
    have HE := Lib.hid he
    clear he hin hin' hd
    go_enter Try.func35, Try.ntmps35
    go_wp2_with fail
    refine (rlsee_any S p ds sd i _ H.out (by omega)).mono ?_
    rintro e w1 ⟨A1, c1, rfl, HF⟩
    rw [HE.out]
    have hb1 := HF.kept
    clear HF
    go_wp2_with fail
    go_ret
    exact RDid.same H.out (Ba hb1 _)
end Go.Proofs.Ytekedgokmmkplaa
