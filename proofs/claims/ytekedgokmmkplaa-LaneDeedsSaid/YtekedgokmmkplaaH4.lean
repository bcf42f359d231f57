/- The reference's lane: Take. -/
import Derived.Test.YtekedgokmmkplaaH3
namespace Go.Proofs.Ytekedgokmmkplaa
open Go.RowKit
set_option maxRecDepth 20000
set_option linter.unusedVariables false
set_option linter.unusedSimpArgs false

/-- A row's first i elements, read through a slice of it. -/
theorem own_head {w : World} {A : Option Addr} {c : Nat} {l : List Item} (h : w.ownsRow 0 30 3 (.slice A l.length c) l.length (rowOf l)) (i : Nat) (hi : i ≤ l.length) : Rd w (fun k => (Value.slice A l.length c).ownBlock = some k) 3 (.slice A i c) i (rowOf (l.take i)) := by
  have h0 := Rd.of_own h
  have hc := h0.cap
  refine ⟨by rw [rowOf_length, List.length_take]; congr 1; omega, A, c, rfl, by omega, by omega, fun hn => ?_⟩
  obtain ⟨g, o, he, hs, hj⟩ := h0.some_ (by omega)
  refine ⟨g, o, he, hs, fun j u hu => hj j u ?_⟩
  rw [← rowOf_take l i hi, List.getElem?_take] at hu
  split at hu
  · exact hu
  · cases hu
/-- .. and those behind the i-th. -/
theorem own_tail {w : World} {g : Nat} {c : Nat} {l : List Item} (h : w.ownsRow 0 30 3 (.slice (some ⟨g, 0, none⟩) l.length c) l.length (rowOf l)) (i : Nat) (hi : i ≤ l.length) (A' : Option Addr) (hA : i < l.length → A' = some ⟨g, i * 3, none⟩) : Rd w (fun k => k = g) 3 (.slice A' (l.length - i) (c - i)) (l.length - i) (rowOf (l.drop i)) := by
  have h0 := Rd.of_own h
  have hc := h0.cap
  refine ⟨by rw [rowOf_length, List.length_drop], A', c - i, rfl, by omega, by omega, fun hn => ?_⟩
  obtain ⟨g', o, he, hs, hj⟩ := h0.some_ (by omega)
  injection he with he
  injection he with he1 he2
  subst he1 he2
  refine ⟨g, i * 3, hA (by omega), rfl, fun j u hu => ?_⟩
  rw [← rowOf_drop l i hi, List.getElem?_drop] at hu
  have := hj (i * 3 + j) u hu
  simpa using this

/-- What the reference's Take does where there is one: its bytes are new, and so is its list. -/
def RTakOut (p k : Nat) (x : Dg) (l : List Item) (w : World) (e : Ending) (w' : World) : Prop :=
  ∃ A c, e = .returned (.tuple #[.agg #[.int .i64 x.f, .int .i64 x.t, .slice A x.bs.length c], .int .i64 0]) ∧
    ∃ v3 w1 W3, w1.ownsRow (w.heap.size + 1) 5 1 (.slice A x.bs.length c) x.bs.length (bts x.bs) ∧ Below w.heap.size w w1 ∧ w.heap.size < w1.heap.size ∧ Below w1.heap.size w1 W3 ∧ W3.ownsRow 0 30 3 v3 (l.length - 1) (rowOf (l.eraseIdx k)) ∧ (∀ k, v3.ownBlock = some k → w1.heap.size ≤ k) ∧ Mod (fun k => k = w.heap.size) (W3.setCell ⟨p, 0, none⟩ v3) w'

set_option maxHeartbeats 4000000 in
theorem rltake_ok (S : Nat → Prop) (p k : Nat) (ds : List Dg) (sd : Int) (l : List Item) (A : Option Addr) (c : Nat) (cs : Array Value) (w : World) (hS : RlAt w S p ds sd) (hmost : ds.length ≤ 4000) (hds : l.map Item.dg = ds) (hk : k < l.length) (h4 : Blk w p 39 cs) (h0 : cs[0]? = some (.slice A l.length c)) (h5 : w.ownsRow 0 30 3 (.slice A l.length c) l.length (rowOf l)) :
    Calls Try.prog 34 #[.pointer (some ⟨p, 0, none⟩), .int .i64 k] w (RTakOut p k (seeD ds k) l w) := by
  obtain ⟨i0, hi0, hz0, hz1, hz2⟩ := info_parts info30
  obtain ⟨g, cc, hv, _⟩ := h5.form (by omega)
  injection hv with hv1 hv2 hv3
  subst hv1
  have hll : l.length = ds.length := by rw [← hds]; simp
  have hin : inR ds.length k = true := by simp [inR]; omega
  have hse : seeE ds k = 0 := by simp [seeE, hin]
  obtain ⟨x, hxd⟩ : ∃ x, x = seeD ds k := ⟨_, rfl⟩
  have HSE := Lib.hid hse
  have HXD := Lib.hid hxd
  have HS := Lib.hid hS
  have HB := Lib.hid h4
  have HO := Lib.hid h5
  have H0 := Lib.hid h0
  have lp := h4.lt
  have hlc : l.length ≤ c := (Rd.of_own h5).cap.2.1
  have hl4 : l.length ≤ 4000 := by omega
  have hkc : (k : Int) ≤ (c : Int) := by omega
  have hlc' : (l.length : Int) ≤ (c : Int) := by omega
  have hk1 : (k : Int) + 1 ≤ (l.length : Int) := by omega
  have hk0 : (0 : Int) ≤ (k : Int) := by omega
  have hlb : (l.length : Int) ≤ 4000 := by omega
  have hlk : (k : Int) < (l.length : Int) := by omega
  have HEX : Hid (rowOf (l.take k) ++ rowOf (l.drop (k + 1)) = rowOf (l.eraseIdx k)) := Lib.hid (by rw [← rowOf_append, ← List.eraseIdx_eq_take_drop_succ])
  have HM0 : Hid (ds.length ≤ 4096) := Lib.hid (by omega)
  rw [← hxd]
  clear hv2 hv3 hS h4 h0 h5 hse hxd hds hin hll hmost
  go_enter Try.func34, Try.ntmps34
  go_wp2_with fail
  refine (rlsee_any S p ds sd k _ (HS.out.below (Ba (B0 w) _)) HM0.out).mono ?_
  rintro e w1 ⟨A1, c1, rfl, HF⟩
  rw [HSE.out, ← HXD.out]
  rw [← HXD.out] at HF
  have HFF := Lib.hid HF
  have hb1 := Lib.hid (Bt (Ba (B0 w) (.cells #[.int .i64 0, .int .i64 0, .slice none 0 0] 30)) HF.kept)
  have hbp := HB.out.later hb1.out
  have q0 := (hbp.cell 0).trans H0.out
  have z0 := hbp.frozen 0
  have hres := (Blk.new w 30 #[.int .i64 0, .int .i64 0, .slice none 0 0]).later HF.kept
  have lres := hres.lt
  have lp1 : p < w1.heap.size := hbp.lt
  have HRES := Lib.hid hres
  have HBP := Lib.hid hbp
  have HOR := Lib.hid (own_below HO.out hb1.out)
  clear HF hbp hres
  by_cases hc1 : c = k + 1
  · subst hc1
    have HLL : Hid (l.length = k + 1) := Lib.hid (by omega)
    go_wp2_with (first
      | (at_builtin; refine gate (some 26) rfl ?_; refine wpList_append_rd _ rfl (.tmp 19) (.tmp 25) 36 rfl 0 30 i0 (.agg #[.int .i64 0, .int .i64 0, .slice none 0 0]) 3 40 Try.underlying36 hi0 hz0 hz1 hz2 rfl (by omega) (.slice none 0 0) 0 [] rfl (World.ownsRow_nil _ _ _ _) (fun j => (Value.slice (some ⟨g, 0, none⟩) l.length (k + 1)).ownBlock = some j) (.slice (some ⟨g, 0, none⟩) k (k + 1)) k (rowOf (l.take k)) rfl (own_head (own_below HOR.out (Ba (B0 w1) _)) k (by omega)) (rowOf_one _) (by simp only [maxLen]; omega) (by omega) (Nat.zero_le _) ?_; intro v2 w2 HA; obtain ⟨A2, c2, rfl⟩ := own_slice HA.own; have hb2 := ((Ba (B0 w1) (.cells #[.int .i64 x.f, .int .i64 x.t, .slice A1 x.bs.length c1] 30)).grown HA.grown (Nat.le_of_lt (by simp)) (by simp [Value.ownBlock])); have hbq := HBP.out.later hb2; have q2 := (hbq.cell 0).trans H0.out; have z2 := hbq.frozen 0; have HAO := Lib.hid (show w2.ownsRow 0 30 3 (.slice A2 k c2) k (rowOf (l.take k)) by simpa using HA.own); have HAT := Lib.hid (show (Value.slice A2 k c2).ownBlock = none ∨ (Value.slice A2 k c2).ownBlock = some (w1.heap.size + 1) by simpa [Value.ownBlock] using HA.at_); have HB2 := Lib.hid hb2; have HBQ := Lib.hid hbq; have HOT := Lib.hid (own_below HOR.out hb2); have hnw := (Blk.new w1 30 #[.int .i64 x.f, .int .i64 x.t, .slice A1 x.bs.length c1]).later (Below.grown (B0 _) HA.grown (Nat.le_refl _) (by simp [Value.ownBlock])); have HNW := Lib.hid hnw; have lnw := hnw.lt; clear hb2 hbq HA hnw)
      | (at_builtin; refine gate (some 36) rfl ?_; refine wpList_append_rd _ rfl (.tmp 28) (.tmp 35) 36 rfl 0 30 i0 (.agg #[.int .i64 0, .int .i64 0, .slice none 0 0]) 3 40 Try.underlying36 hi0 hz0 hz1 hz2 rfl (by omega) (.slice A2 k c2) k (rowOf (l.take k)) rfl HAO.out (fun j => j = g) (.slice (some ⟨g, 0, none⟩) 0 0) (0) ([]) rfl (⟨rfl, _, 0, rfl, Nat.le_refl _, Nat.zero_le _, fun h => absurd h (by omega)⟩) (by simp) (by simp only [maxLen]; omega) (by omega) (Nat.zero_le _) ?_; intro v3 w3 HA; obtain ⟨A3, c3, rfl⟩ := own_slice HA.own; have hm3 := ((Mod.refl (fun j => (Value.slice A2 k c2).ownBlock = some j) w2).grown HA.grown (fun j hj => .inl hj)); have hp3 := HBQ.out.kept hm3 (own_ne_blk HAO.out HBQ.out (show (30 : TypeId) ≠ 39 by decide)); have q3 := (hp3.cell 0).trans H0.out; have z3 := hp3.frozen 0; have hk3 := HNW.out.kept hm3 (by rcases HAT.out with e | e <;> rw [e] <;> simp); obtain ⟨m0, m1, m2, y0, y1, y2⟩ := blk3 hk3; have hr3 := (HRES.out.later HB2.out).kept hm3 (by rcases HAT.out with e | e <;> rw [e] <;> simp; omega); obtain ⟨r0, r1, r2, s0, s1, s2⟩ := blk3 hr3; have HR3 := Lib.hid hr3; have HM3 := Lib.hid hm3; have HAA := Lib.hid HA; clear hm3 hp3 HA hk3 hr3))
    obtain ⟨x0, x1, x2, _⟩ := blk3 ((HR3.out.far (p := ⟨p, 0, none⟩) (by simp; omega) (.slice A3 k c3)).set3 (.int .i64 x.f) (.int .i64 x.t) (.slice A1 x.bs.length c1))
    refine bodyPost_ret (v := .tuple #[.agg #[.int .i64 x.f, .int .i64 x.t, .slice A1 x.bs.length c1], .int .i64 0]) (by simp [results, Try.results34, go_sem, x0, x1, x2]) rfl ?_
    refine ⟨A1, c1, rfl, .slice A3 k c3, w1, w3, by simpa using HFF.out.own, hb1.out, lres, Bm HB2.out HM3.out ?_, ?_, ?_, ?_⟩
    · intro i hi2
      rcases HAT.out with e | e
      · rw [e] at hi2; cases hi2
      · rw [e] at hi2; injection hi2 with hi2; omega
    · have h := HAA.out.own
      simp only [Nat.add_zero] at h
      have e : rowOf (l.take k) ++ [] = rowOf (l.eraseIdx k) := by rw [← HEX.out, List.drop_eq_nil_of_le (by have := HLL.out; omega)]; rfl
      rw [e] at h
      have e2 : l.length - 1 = k := by have := HLL.out; omega
      rw [e2]
      exact h
    · intro i hi2
      have h2 := HAA.out.at_
      simp only [Nat.add_zero] at h2
      simp only [Value.ownBlock] at h2 hi2
      have h3 := HAT.out
      simp only [Value.ownBlock] at h3
      rcases h2 with e | e
      · rw [← e] at h3
        rcases h3 with h3 | h3
        · rw [h3] at hi2; cases hi2
        · rw [h3] at hi2; injection hi2 with hi2; omega
      · rw [e] at hi2; injection hi2 with hi2; omega
    · exact (((Mod.refl (fun j => j = w.heap.size) _).setCell (p := ⟨w.heap.size, 0, none⟩) (.inl rfl) _).setCell (p := ⟨w.heap.size, 1, none⟩) (.inl rfl) _).setCell (p := ⟨w.heap.size, 2, none⟩) (.inl rfl) _
  · have hc2 : ((c : Int) == (k : Int) + 1) = false := by rw [beq_eq_false_iff_ne]; omega
    go_wp2_with (first
      | (at_builtin; refine gate (some 26) rfl ?_; refine wpList_append_rd _ rfl (.tmp 19) (.tmp 25) 36 rfl 0 30 i0 (.agg #[.int .i64 0, .int .i64 0, .slice none 0 0]) 3 40 Try.underlying36 hi0 hz0 hz1 hz2 rfl (by omega) (.slice none 0 0) 0 [] rfl (World.ownsRow_nil _ _ _ _) (fun j => (Value.slice (some ⟨g, 0, none⟩) l.length c).ownBlock = some j) (.slice (some ⟨g, 0, none⟩) k c) k (rowOf (l.take k)) rfl (own_head (own_below HOR.out (Ba (B0 w1) _)) k (by omega)) (rowOf_one _) (by simp only [maxLen]; omega) (by omega) (Nat.zero_le _) ?_; intro v2 w2 HA; obtain ⟨A2, c2, rfl⟩ := own_slice HA.own; have hb2 := ((Ba (B0 w1) (.cells #[.int .i64 x.f, .int .i64 x.t, .slice A1 x.bs.length c1] 30)).grown HA.grown (Nat.le_of_lt (by simp)) (by simp [Value.ownBlock])); have hbq := HBP.out.later hb2; have q2 := (hbq.cell 0).trans H0.out; have z2 := hbq.frozen 0; have HAO := Lib.hid (show w2.ownsRow 0 30 3 (.slice A2 k c2) k (rowOf (l.take k)) by simpa using HA.own); have HAT := Lib.hid (show (Value.slice A2 k c2).ownBlock = none ∨ (Value.slice A2 k c2).ownBlock = some (w1.heap.size + 1) by simpa [Value.ownBlock] using HA.at_); have HB2 := Lib.hid hb2; have HBQ := Lib.hid hbq; have HOT := Lib.hid (own_below HOR.out hb2); have hnw := (Blk.new w1 30 #[.int .i64 x.f, .int .i64 x.t, .slice A1 x.bs.length c1]).later (Below.grown (B0 _) HA.grown (Nat.le_refl _) (by simp [Value.ownBlock])); have HNW := Lib.hid hnw; have lnw := hnw.lt; clear hb2 hbq HA hnw)
      | (at_builtin; refine gate (some 36) rfl ?_; refine wpList_append_rd _ rfl (.tmp 28) (.tmp 35) 36 rfl 0 30 i0 (.agg #[.int .i64 0, .int .i64 0, .slice none 0 0]) 3 40 Try.underlying36 hi0 hz0 hz1 hz2 rfl (by omega) (.slice A2 k c2) k (rowOf (l.take k)) rfl HAO.out (fun j => j = g) (.slice (some ⟨g, (k + 1) * 3, none⟩) (l.length - (k + 1)) (c - (k + 1))) (l.length - (k + 1)) (rowOf (l.drop (k + 1))) rfl (own_tail HOT.out (k + 1) (by omega) (some ⟨g, (k + 1) * 3, none⟩) (fun _ => rfl)) (rowOf_one _) (by simp only [maxLen]; omega) (by omega) (Nat.zero_le _) ?_; intro v3 w3 HA; obtain ⟨A3, c3, rfl⟩ := own_slice HA.own; have hm3 := ((Mod.refl (fun j => (Value.slice A2 k c2).ownBlock = some j) w2).grown HA.grown (fun j hj => .inl hj)); have hp3 := HBQ.out.kept hm3 (own_ne_blk HAO.out HBQ.out (show (30 : TypeId) ≠ 39 by decide)); have q3 := (hp3.cell 0).trans H0.out; have z3 := hp3.frozen 0; have hk3 := HNW.out.kept hm3 (by rcases HAT.out with e | e <;> rw [e] <;> simp); obtain ⟨m0, m1, m2, y0, y1, y2⟩ := blk3 hk3; have hr3 := (HRES.out.later HB2.out).kept hm3 (by rcases HAT.out with e | e <;> rw [e] <;> simp; omega); obtain ⟨r0, r1, r2, s0, s1, s2⟩ := blk3 hr3; have HR3 := Lib.hid hr3; have HM3 := Lib.hid hm3; have HAA := Lib.hid HA; clear hm3 hp3 HA hk3 hr3))
    obtain ⟨x0, x1, x2, _⟩ := blk3 ((HR3.out.far (p := ⟨p, 0, none⟩) (by simp; omega) (.slice A3 (k + (l.length - (k + 1))) c3)).set3 (.int .i64 x.f) (.int .i64 x.t) (.slice A1 x.bs.length c1))
    refine bodyPost_ret (v := .tuple #[.agg #[.int .i64 x.f, .int .i64 x.t, .slice A1 x.bs.length c1], .int .i64 0]) (by simp [results, Try.results34, go_sem, x0, x1, x2]) rfl ?_
    refine ⟨A1, c1, rfl, .slice A3 (k + (l.length - (k + 1))) c3, w1, w3, by simpa using HFF.out.own, hb1.out, lres, Bm HB2.out HM3.out ?_, ?_, ?_, ?_⟩
    · intro i hi2
      rcases HAT.out with e | e
      · rw [e] at hi2; cases hi2
      · rw [e] at hi2; injection hi2 with hi2; omega
    · have h := HAA.out.own
      rw [HEX.out] at h
      have e2 : l.length - 1 = k + (l.length - (k + 1)) := by omega
      rw [e2]
      exact h
    · intro i hi2
      have h2 := HAA.out.at_
      skip
      simp only [Value.ownBlock] at h2 hi2
      have h3 := HAT.out
      simp only [Value.ownBlock] at h3
      rcases h2 with e | e
      · rw [← e] at h3
        rcases h3 with h3 | h3
        · rw [h3] at hi2; cases hi2
        · rw [h3] at hi2; injection hi2 with hi2; omega
      · rw [e] at hi2; injection hi2 with hi2; omega
    · exact (((Mod.refl (fun j => j = w.heap.size) _).setCell (p := ⟨w.heap.size, 0, none⟩) (.inl rfl) _).setCell (p := ⟨w.heap.size, 1, none⟩) (.inl rfl) _).setCell (p := ⟨w.heap.size, 2, none⟩) (.inl rfl) _

/-- What the reference's Take answers, and its lane behind it. -/
def RTook (S : Nat → Prop) (p : Nat) (ds : List Dg) (sd i : Int) (w : World) (e : Ending) (w' : World) : Prop :=
  ∃ A c, e = .returned (.tuple #[.agg #[.int .i64 (seeD ds i).f, .int .i64 (seeD ds i).t, .slice A (seeD ds i).bs.length c], .int .i64 (seeE ds i)]) ∧ w'.ownsRow w.heap.size 5 1 (.slice A (seeD ds i).bs.length c) (seeD ds i).bs.length (bts (seeD ds i).bs) ∧
    ∃ S', Mod S w w' ∧ RlAt w' S' p (takL ds i) sd ∧ ∀ i, S' i → S i ∨ w.heap.size ≤ i
end Go.Proofs.Ytekedgokmmkplaa
