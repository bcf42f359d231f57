/- The reference's relay: which frame Take takes (no program in sight); Take, whatever comes. -/
import Derived.Test.YtdnbbjhickjnmaaR22
namespace Go.Proofs.Ytdnbbjhickjnmaa
open Go.RowKit
set_option maxRecDepth 20000
set_option linter.unusedVariables false
set_option linter.unusedSimpArgs false

theorem first_forN (n : Int) : ∀ (ds : List Dg), cntF ds n ≠ 0 → ∃ i, ∃ hi : i < ds.length, ds[i].t = n ∧ (∀ k (hk : k < ds.length), k < i → (ds[k].t == n) = false) ∧ (ds.filter (forN n)).headD ⟨0, 0, []⟩ = ds[i] ∧ ds.eraseP (forN n) = ds.eraseIdx i
  | [], h => absurd rfl h
  | d :: ds, h => by
    by_cases hd : d.t = n
    · have hf : forN n d = true := by simp [forN, hd]
      exact ⟨0, by simp, hd, fun k hk h0 => absurd h0 (by omega), by rw [List.filter_cons_of_pos hf]; rfl, by rw [List.eraseP_cons_of_pos hf]; rfl⟩
    · have hf : ¬ forN n d = true := by simp [forN, hd]
      have hc : cntF (d :: ds) n = cntF ds n := by
        rw [cnt_forN, cnt_forN, List.filter_cons_of_neg hf]
      obtain ⟨i, hi, h1, h2, h3, h4⟩ := first_forN n ds (by rw [← hc]; exact h)
      refine ⟨i + 1, by simpa using hi, h1, ?_, ?_, ?_⟩
      · intro k hk hlt
        cases k with
        | zero => simpa using hd
        | succ k => exact h2 k (by simpa using hk) (by omega)
      · rw [List.filter_cons_of_neg hf]; exact h3
      · rw [List.eraseP_cons_of_neg hf, h4]; rfl

/-- What the reference's Take answers, and its relay then. -/
def RTook (S : Nat → Prop) (p : Nat) (ds : List Dg) (n : Int) (w : World) (e : Ending) (w' : World) : Prop :=
  ∃ A c, e = .returned (.tuple #[.agg #[.int .i64 (reftakD ds n).f, .int .i64 (reftakD ds n).t, .slice A (reftakD ds n).bs.length c], .int .i64 (reftakE ds n)]) ∧
    ∃ S', Rd w' S' 1 (.slice A (reftakD ds n).bs.length c) (reftakD ds n).bs.length (bts (reftakD ds n).bs) ∧ Mod S w w' ∧ RrAt w' S' p (reftakL ds n) ∧ ∀ i, S' i → S i ∨ w.heap.size ≤ i

theorem reftake_any (S : Nat → Prop) (p : Nat) (ds : List Dg) (n : Int) (w : World) (h : RrAt w S p ds) (hmost : ds.length ≤ 4096) :
    Calls Try.prog 18 #[.pointer (some ⟨p, 0, none⟩), .int .i64 n] w (RTook S p ds n w) := by
  unfold RTook
  cases hn : nodeB n
  · have he : reftakE ds n = 220 := by simp [reftakE, hn]
    have hd : reftakD ds n = ⟨0, 0, []⟩ := by simp [reftakD, he]
    have hl : reftakL ds n = ds := by simp [reftakL, he]
    rw [he, hd, hl]
    refine (reftake_err p n w hn).mono ?_
    rintro e w' ⟨rfl, hb⟩
    exact ⟨none, 0, rfl, S, Rd.nil _ _ _, Mod.of_below hb, h.below hb, fun i hi => .inl hi⟩
  · by_cases h0 : cntF ds n = 0
    · have he : reftakE ds n = 240 := by simp [reftakE, hn, h0]
      have hd : reftakD ds n = ⟨0, 0, []⟩ := by simp [reftakD, he]
      have hl : reftakL ds n = ds := by simp [reftakL, he]
      rw [he, hd, hl]
      refine (reftake_none S p ds n w h hmost hn h0).mono ?_
      rintro e w' ⟨rfl, hb⟩
      exact ⟨none, 0, rfl, S, Rd.nil _ _ _, Mod.of_below hb, h.below hb, fun i hi => .inl hi⟩
    · have he : reftakE ds n = 0 := by simp [reftakE, hn, h0]
      obtain ⟨i, hi, e1, e2, e3, e4⟩ := first_forN n ds h0
      have hd : reftakD ds n = ds[i] := by rw [reftakD, if_pos he, e3]
      have hl : reftakL ds n = ds.eraseIdx i := by rw [reftakL, if_pos he, e4]
      rw [he, hd, hl]
      obtain ⟨h1, h2, l, sl, T, h3, h4, h5, h6, h7, h8⟩ := h
      obtain ⟨A, c, rfl⟩ := own_slice h5
      subst h3
      have hil : i < l.length := by simpa using hi
      have hg : ∀ k (hk : k < (l.map Item.dg).length), (l.map Item.dg)[k] = (l[k]'(by simpa using hk)).dg := fun k hk => by simp
      rw [hg i hi] at e1 ⊢
      refine (reftake_ok p i n l A c w hil (by simpa using hmost) hn h4 h5 e1 (fun k hk hki => ?_)).mono ?_
      · have := e2 k (by simpa using hk) hki
        rw [hg k (by simpa using hk)] at this
        exact this
      · rintro e w' ⟨rfl, v3, W3, hb3, hown, hnew, hm⟩
        refine ⟨l[i].A, l[i].c, rfl, fun k => S k ∨ (w.heap.size ≤ k ∧ k < W3.heap.size), ?_, ?_, ?_, fun k hk => hk.imp id And.left⟩
        · have hx := h8 l[i] (List.getElem_mem hil)
          have hk1 := Item.ok_kept hx (Mod.of_below (S := fun _ => False) hb3) (fun _ _ h => h)
          have hm3 : Mod (fun k => k = p ∨ k = w.heap.size) W3 w' := ((Mod.refl (fun k => k = p ∨ k = w.heap.size) W3).setCell (.inl (.inl rfl)) v3).trans hm (fun k hk => .inl (.inr hk))
          refine (Item.ok_kept hk1 hm3 ?_).1.mono (fun k hk => .inl (h7 k hk).1)
          rintro k hk (rfl | rfl)
          · exact (h7 _ hk).2 rfl
          · have := h2 _ (h7 _ hk).1; omega
        · have hm3 : Mod (fun k => k = p ∨ k = w.heap.size) W3 w' := ((Mod.refl (fun k => k = p ∨ k = w.heap.size) W3).setCell (.inl (.inl rfl)) v3).trans hm (fun k hk => .inl (.inr hk))
          exact (Mod.of_below (S := S) hb3).trans hm3 (fun k hk => by
            rcases hk with rfl | rfl
            · exact .inl h1
            · exact .inr (Nat.le_refl _))
        · have hp3 : Blk W3 p 83 #[.slice A l.length c] := h4.later hb3
          have hm3 : Mod (fun k => k = p ∨ k = w.heap.size) W3 w' := ((Mod.refl (fun k => k = p ∨ k = w.heap.size) W3).setCell (.inl (.inl rfl)) v3).trans hm (fun k hk => .inl (.inr hk))
          have hpw : p < w.heap.size := h2 p h1
          refine ⟨.inl h1, fun k hk => ?_, l.eraseIdx i, v3, T, by rw [List.eraseIdx_eq_take_drop_succ, List.eraseIdx_eq_take_drop_succ, List.map_append, List.map_take, List.map_drop], ?_, ?_, ?_, ?_, ?_⟩
          · rcases hk with hk | hk
            · exact Nat.lt_of_lt_of_le (h2 k hk) (Nat.le_trans hb3.size hm3.size)
            · exact Nat.lt_of_lt_of_le hk.2 hm3.size
          · have h9 : Blk (W3.setCell ⟨p, 0, none⟩ v3) p 83 #[v3] := by simpa using hp3.set_ 0 v3
            exact h9.kept hm (by omega)
          · have e : (l.eraseIdx i).length = l.length - 1 := by rw [List.length_eraseIdx_of_lt hil]
            rw [e]
            refine own_mod hown hm3 ?_ (Nat.le_refl _)
            rintro k hk (rfl | rfl)
            · have := hnew _ hk; omega
            · have := hnew _ hk; omega
          · intro k hk
            refine ⟨.inr ⟨by have := hnew k hk; omega, own_lt hown k hk⟩, fun ht => ?_⟩
            have := h2 k (h7 k ht).1
            have := hnew k hk
            omega
          · exact fun k hk => ⟨.inl (h7 k hk).1, (h7 k hk).2⟩
          · intro x hx
            have h9 := Item.ok_kept (h8 x (List.mem_of_mem_eraseIdx hx)) (Mod.of_below (S := fun _ => False) hb3) (fun _ _ h => h)
            refine Item.ok_kept h9 hm3 ?_
            rintro k hk (rfl | rfl)
            · exact (h7 _ hk).2 rfl
            · have := h2 _ (h7 _ hk).1; omega
end Go.Proofs.Ytdnbbjhickjnmaa
