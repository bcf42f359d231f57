/- Walks: Clone; the writer: Write, Bytes, Put, Octets, Out. -/
import Derived.Test.YtnphnaggamfoiaaW1
import Derived.Deep.RegionLaw
import Derived.Lib.SliceRun
namespace Go.Proofs.Ytnphnaggamfoiaa.Wr
open Go.RowKit
set_option linter.unusedVariables false
set_option maxRecDepth 20000
set_option linter.unusedSimpArgs false

theorem own_ne_blk {w : World} {g t base : Nat} {cs : Array Value} {e : TypeId} {size n : Nat} {v : Value} {xs : List Value} (h : w.ownsRow base e size v n xs) (hg : Blk w g t cs) (hne : e ≠ t) : v.ownBlock ≠ some g := by
  rcases h.2 with ⟨rfl, _⟩ | ⟨g', cap, cur, rfl, _, hh, _⟩
  · simp [Value.ownBlock]
  · intro he
    have : g' = g := by simpa [Value.ownBlock] using he
    subst this
    exact Blk.ne_ (t := e) hh hg hne rfl

theorem bts_append (xs ys : List Int) : bts (xs ++ ys) = bts xs ++ bts ys := by simp [bts]
theorem _root_.Go.Proofs.Ytnphnaggamfoiaa.Blk.set2a {w : World} {g : Nat} {t : TypeId} {a b : Value} (h : Blk w g t #[a, b]) (x : Value) : Blk (w.setCell ⟨g, 0, none⟩ x) g t #[x, b] := by simpa using h.set_ 0 x
theorem _root_.Go.Proofs.Ytnphnaggamfoiaa.Blk.set2b {w : World} {g : Nat} {t : TypeId} {a b : Value} (h : Blk w g t #[a, b]) (x : Value) : Blk (w.setCell ⟨g, 1, none⟩ x) g t #[a, x] := by simpa using h.set_ 1 x

theorem clone_any (S : Nat → Prop) (A : Option Addr) (c : Nat) (xs : List Int) (w : World) (h : Rd w S 1 (.slice A xs.length c) xs.length (bts xs)) (hS : ∀ i, S i → i < w.heap.size) (hsz : xs.length ≤ 140737488355328) :
    Calls Try.prog 69 #[.slice A xs.length c] w fun e w' => ∃ A' c', e = .returned (.slice A' xs.length c') ∧ Fresh w w' A' c' xs := by
  obtain ⟨i0, hi0, hz0, hz1, hz2⟩ := info_parts info5
  have hnil := fun (a : Option Addr) (n c : Nat) (w : World) => Lib.run_eql_slice_nil (P := Try.prog) w 23 5 a n c 0 0 Try.underlying23
  rcases A with _ | a
  · have h0 : xs = [] := by
      rcases Nat.eq_zero_or_pos xs.length with h0 | h0
      · exact List.eq_nil_of_length_eq_zero h0
      · obtain ⟨g, o, he, _⟩ := h.some_ h0; cases he
    subst h0
    go_enter Try.func69, Try.ntmps69
    go_wp2
    go_ret
    exact ⟨none, 0, rfl, World.ownsRow_nil _ _ _ _, Below.refl _ _⟩
  · have HR := Lib.hid h
    clear h
    have HO := Lib.hid (own_of_blk (base := w.heap.size) (n := 0) (size := 1) (cs := []) (Blk.new w 5 #[]) (by simp) (by simp [maxLen]) (Nat.le_refl _))
    go_enter Try.func69, Try.ntmps69
    go_wp2_with (at_builtin; refine wpList_append_rd _ rfl (.tmp 5) (.tmp 6) _ rfl w.heap.size 5 i0 _ 1 1 Try.underlying23 hi0 hz0 hz1 hz2 rfl (by omega) (.slice (some ⟨w.heap.size, 0, none⟩) 0 0) 0 [] rfl HO.out S (.slice (some a) xs.length c) xs.length (bts xs) rfl (HR.out.below (Ba (B0 w) _) hS) (bts_one xs) (by simp only [maxLen]; omega) (by omega) (by simp) ?_; intro v1 w1 HA)
    go_ret
    obtain ⟨A', c', rfl⟩ := own_slice HA.own
    simp only [Nat.zero_add, List.nil_append] at HA
    exact ⟨A', c', by simp, HA.own, (Ba (B0 w) (.cells #[] 5)).grown HA.grown (by simp) (by simp [Value.ownBlock])⟩

/-- A writer in blocks of S, that holds these bytes. -/
def WrAt (w : World) (S : Nat → Prop) (p : Nat) (xs : List Int) : Prop :=
  (∀ i, S i → i < w.heap.size) ∧ ∃ s A c, S p ∧ S s ∧ Blk w p 98 #[.pointer (some ⟨s, 0, none⟩)] ∧ Blk w s 96 #[.slice A xs.length c, .int .i64 0] ∧
    w.ownsRow 0 5 1 (.slice A xs.length c) xs.length (bts xs) ∧ (∀ k, (Value.slice A xs.length c).ownBlock = some k → S k)

theorem WrAt.below {w w' : World} {S : Nat → Prop} {p : Nat} {xs : List Int} (h : WrAt w S p xs) (hb : Below w.heap.size w w') : WrAt w' S p xs := by
  obtain ⟨h1, s, A, c, h2, h3, h4, h5, h6, h7⟩ := h
  exact ⟨fun i hi => Nat.lt_of_lt_of_le (h1 i hi) hb.size, s, A, c, h2, h3, h4.later hb, h5.later hb, own_below h6 hb, h7⟩
theorem WrAt.kept {w w' : World} {S T : Nat → Prop} {p : Nat} {xs : List Int} (h : WrAt w S p xs) (hm : Mod T w w') (hd : ∀ i, S i → ¬ T i) : WrAt w' S p xs := by
  obtain ⟨h1, s, A, c, h2, h3, h4, h5, h6, h7⟩ := h
  exact ⟨fun i hi => Nat.lt_of_lt_of_le (h1 i hi) hm.size, s, A, c, h2, h3, h4.kept hm (hd _ h2), h5.kept hm (hd _ h3), own_mod h6 hm (fun k hk => hd _ (h7 k hk)) (Nat.le_refl _), h7⟩

/-- Behind a call to a writer: what it answers, what the writer then holds. -/
def WDid (S : Nat → Prop) (p : Nat) (xs : List Int) (v : Value) (w : World) (e : Ending) (w' : World) : Prop :=
  e = .returned v ∧ ∃ S', Mod S w w' ∧ WrAt w' S' p xs ∧ ∀ i, S' i → S i ∨ w.heap.size ≤ i

theorem wr_appended {S : Nat → Prop} {p s : Nat} {xs ys : List Int} {A : Option Addr} {c : Nat} {w W w2 : World} {v2 : Value} (h1 : ∀ i, S i → i < w.heap.size) (h2 : S p) (h3 : S s) (h4 : Blk w p 98 #[.pointer (some ⟨s, 0, none⟩)])
    (h5 : Blk w s 96 #[.slice A xs.length c, .int .i64 0]) (h6 : w.ownsRow 0 5 1 (.slice A xs.length c) xs.length (bts xs)) (h7 : ∀ k, (Value.slice A xs.length c).ownBlock = some k → S k) (hb : Below w.heap.size w W)
    (HA : Appended W 0 5 1 (.slice A xs.length c) (xs.length + ys.length) (bts xs ++ bts ys) v2 w2) : WDid S p (xs ++ ys) (.int .i64 0) w (.returned (.int .i64 0)) (w2.setCell ⟨s, 0, none⟩ v2) := by
  obtain ⟨A2, c2, rfl⟩ := own_slice HA.own
  have hps : p ≠ s := h4.ne_ h5 (by decide)
  have hm : Mod S w w2 := (Mod.of_below (S := S) hb).trans ((Mod.refl S W).grown HA.grown (fun k hk => .inl (h7 k hk))) (fun i hi => .inl hi)
  have b4 : Blk w2 p 98 #[.pointer (some ⟨s, 0, none⟩)] := (h4.later hb).grown HA.grown (own_ne_blk h6 h4 (by decide)).symm
  have b5 : Blk w2 s 96 #[.slice A xs.length c, .int .i64 0] := (h5.later hb).grown HA.grown (own_ne_blk h6 h5 (by decide)).symm
  have hs2 : (Value.slice A2 (xs.length + ys.length) c2).ownBlock ≠ some s := own_ne_blk HA.own b5 (by decide)
  have hat : ∀ k, (Value.slice A2 (xs.length + ys.length) c2).ownBlock = some k → S k ∨ w.heap.size ≤ k := by
    intro k hk
    rcases HA.at_ with e | e
    · exact .inl (h7 k (e.symm.trans hk))
    · rw [e] at hk; injection hk with hk; subst hk; exact .inr hb.size
  have hlt := own_lt HA.own
  refine ⟨rfl, fun i => S i ∨ (Value.slice A2 (xs.length + ys.length) c2).ownBlock = some i, hm.setCell (.inl h3) _, ⟨fun i hi => ?_, s, A2, c2, .inl h2, .inl h3, b4.far hps _, ?_, ?_, fun k hk => .inr (by simpa using hk)⟩, fun i hi => hi.elim .inl (hat i)⟩
  · rw [World.size_setCell]
    exact hi.elim (fun h => Nat.lt_of_lt_of_le (h1 i h) hm.size) (fun h => hlt i h)
  · rw [List.length_append]; exact b5.set2a _
  · rw [List.length_append, bts_append]
    exact own_mod HA.own ((Mod.refl (fun k => k = s) w2).setCell (.inl rfl) _) (fun k hk he => by subst he; exact hs2 hk) (Nat.le_refl _)

set_option maxHeartbeats 1000000 in
theorem wbytes_any (S T : Nat → Prop) (p : Nat) (xs bs : List Int) (Ab : Option Addr) (cb : Nat) (w : World) (h : WrAt w S p xs) (hr : Rd w T 1 (.slice Ab bs.length cb) bs.length (bts bs)) (hT : ∀ i, T i → i < w.heap.size) (hl : xs.length + bs.length ≤ 140737488355328) :
    Calls Try.prog 105 #[.pointer (some ⟨p, 0, none⟩), .slice Ab bs.length cb] w (WDid S p (xs ++ bs) (.int .i64 0) w) := by
  obtain ⟨i0, hi0, hz0, hz1, hz2⟩ := info_parts info5
  obtain ⟨h1, s, A, c, h2, h3, h4, h5, h6, h7⟩ := h
  obtain ⟨x0, f0⟩ := blk1 h4
  obtain ⟨y0, y1, g0, g1⟩ := blk2 h5
  have HP := Lib.hid (fun W w2 v2 (hb : Below w.heap.size w W) (HA : Appended W 0 5 1 (.slice A xs.length c) (xs.length + bs.length) (bts xs ++ bts bs) v2 w2) => wr_appended h1 h2 h3 h4 h5 h6 h7 hb HA)
  have H4 := Lib.hid h4
  have H5 := Lib.hid h5
  have HO := Lib.hid h6
  have HR := Lib.hid hr
  clear h4 h5 h6 h7 hr h1 h2 h3
  go_enter Try.func105, Try.ntmps105
  go_wp2_with (go_at_call 68; refine (wnone_any p s w H4.out).mono ?_; rintro e w' ⟨rfl, rfl⟩)
  go_region_law (refine step_append_rd _ rfl (.tmp 17) (.tmp 18) 23 rfl 0 5 i0 _ 1 1 Try.underlying23 hi0 hz0 hz1 hz2 rfl (by omega) (.slice A xs.length c) xs.length (bts xs) (by simp [Act.eval, Act.put]) (own_below HO.out (Bd (B0 w))) T (.slice Ab bs.length cb) bs.length (bts bs) (by simp [Act.eval, Act.put]) (HR.out.below (Bd (B0 w)) hT) (bts_one bs) (by simp only [maxLen]; omega) (by omega) (Nat.zero_le _) ?_; intro v2 w2 HA; obtain ⟨A2, c2, rfl⟩ := own_slice HA.own; have HBp := Blk.grown (Blk.drew H4.out) HA.grown (own_ne_blk HO.out H4.out (show (5 : TypeId) ≠ 98 by decide)).symm; have HBs := Blk.grown (Blk.drew H5.out) HA.grown (own_ne_blk HO.out H5.out (show (5 : TypeId) ≠ 96 by decide)).symm; obtain ⟨p0, k0⟩ := blk1 HBp; obtain ⟨p1, p2, k1, k2⟩ := blk2 HBs)
  all_goals
    go_wp2
    go_ret
    exact HP.out _ _ _ (Bd (B0 w)) HA
end Go.Proofs.Ytnphnaggamfoiaa.Wr
